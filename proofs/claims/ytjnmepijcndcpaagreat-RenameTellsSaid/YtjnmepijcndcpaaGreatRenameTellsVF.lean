/- A part of the proof: lemmas and walks that the last text of the claim joins; no condition. -/
import Derived.Test.YtjnmepijcndcpaaGreatRenameTellsVE
import Derived.RangeFuncLeaves
import Derived.RangeFuncRecord
import Derived.Below
set_option linter.unusedVariables false
set_option linter.unusedSimpArgs false
set_option maxHeartbeats 8000000
namespace Go.Vc
set_option autoImplicit false
theorem jb4 {B : Base} {F : Entry → Prop} {e : Entry} {N : Nat} {L : List Nat} {pl : List (Nat × List Nat)} (hlen : B.Y.len = 0) (hFam : FamOk F) {f : FuncId} {caps : List SV} {ps : List Nat} {x y : Code} {K : KT} {σ : Env} {Φ : Phi} {r : Mem} {β : jKW} {a : Act} {w : World} {g : Operand} {cs : List Value}
    (ihx : IH B N L pl x) (ihy : IH B N L pl y) (hps : ∀ p ∈ ps,p < N) (h : RangeStop B L f caps ps (fun K σ Φ n => vc B L pl x K σ Φ n) (fun K σ Φ n => vc B L pl y K σ Φ n) K σ Φ)
    (s : Sat B e N r β σ Φ a w) (hF : F e) (hgv : a.eval g = .func (.func f) #[] cs.toArray) (hcs : jKS r β caps cs) :
    (Code.rangeFunc g ⟨ps⟩ x y).wpIn (fc none) 0 B.P (QK B F N K) a w := by
  cases h with
  | mkF hp hpl F' m C a0 h0 he hr hend =>
    rename_i pre len at_ it α
    simp only [jdV,jWF] at he hr hend
    exact jZJ hlen hFam ihx ihy hps it hp hpl F' m C a0 h0 he hr hend s hF hgv hcs
  | mk hp hpl F' m C a0 h0 he hr hend =>
  rename_i pre len at_ it α
  rw [jPX,jLE] at he
  have hrS := hr
  obtain ⟨σI,hσI⟩ : ∃ σI, σI = purge L (jjG [] (jf2 Φ σ L)) := ⟨_,rfl⟩
  rw [← hσI] at he
  have hst : Stb Φ σI := by
    intro k g sv hk
    rw [hσI] at hk
    obtain ⟨hg,hk'⟩ := jPR hk
    subst hg
    obtain ⟨_,h2,_⟩ := jXT (show Env.get (jf2 Φ σ L) k = some (none,sv) from hk')
    exact ⟨rfl,h2⟩
  have hsub : ∀ k g sv,Env.get σI k = some (g,sv) → Env.get σ k = some (none,sv) ∧ g = none := by
    intro k g sv hk
    rw [hσI] at hk
    obtain ⟨hg,hk'⟩ := jPR hk
    subst hg
    obtain ⟨_,_,h3⟩ := jXT (show Env.get (jf2 Φ σ L) k = some (none,sv) from hk')
    exact ⟨h3,rfl⟩
  have hng : jN0 σI := fun k g sv hk => (hsub k g sv hk).2
  have hagI : Agree r β σI a.tmps := s.agree.of fun k g sv hk => by
    obtain ⟨h1,rfl⟩ := hsub k g sv hk
    exact ⟨sv,h1,fun v hv => hv⟩
  refine wpIn_rangeFunc fun fn hfn => ?_
  obtain ⟨rec,hrec⟩ : ∃ rec : Loop,rec = { state := .ready,pending := none,fn := fn,tmps := a.tmps,params := ⟨ps⟩,assign := x,body := y,defers := w.heap.size } := ⟨_,rfl⟩
  obtain ⟨W0,hW0⟩ : ∃ W0 : World,W0 = (w.alloc (.deferred (some []))).alloc (.loop rec) := ⟨_,rfl⟩
  obtain ⟨l,hl⟩ : ∃ l : Nat,l = w.heap.size + 1 := ⟨_,rfl⟩
  obtain ⟨ap,hap⟩ : ∃ ap : Act,ap = { a with defers := [mkD w.heap.size] ++ a.defers } := ⟨_,rfl⟩
  have hent : (Instr.enterLoop fn a.tmps ⟨ps⟩ x y none).run B.P w = .ok (l,[mkD w.heap.size]) W0 := by
    rw [hl,hW0,hrec];exact run_enterLoop_outer fn a.tmps ⟨ps⟩ x y
  have hheap : W0.heap = (w.heap.push (.deferred (some []))).push (.loop rec) := by rw [hW0];rfl
  have hgrow : Grows w W0 := ⟨by rw [hW0];rfl,by rw [hW0];rfl,by rw [hW0];rfl,by rw [hheap];simp;omega,fun b hb => by
    rw [hheap,Array.getElem?_push,if_neg (by simp;omega),Array.getElem?_push,if_neg (by omega)]⟩
  have hl0 : W0.heap[l]? = some (.loop rec) := by
    rw [hheap,hl,Array.getElem?_push,if_pos (by simp)]
  have hD0 : W0.heap[w.heap.size]? = some (.deferred (some [])) := by
    rw [hheap,Array.getElem?_push,if_neg (by simp),Array.getElem?_push,if_pos rfl]
  have newn : ∀ b,w.heap.size ≤ b → r b = none ∧ ∀ id ch,Phi.get Φ id = some ch → ¬ ch.hb (β id) b := by
    intro b hb
    refine ⟨?_,fun id ch h1 h2 => by have := jNR s.mem h1 h2;omega⟩
    cases hq : r b with
    | none => rfl
    | some o => have := lt_of_heap (s.mem.vis b o hq);omega
  obtain ⟨m0,hid0⟩ := jUT s.mem hgrow
  have s0 : Sat B e N r β σI Φ ap W0 := by
    refine ⟨by rw [hap];exact hagI,m0,s.G,s.kept.step (Mem.le_refl r) hid0,?_,by rw [hap];exact s.size⟩
    obtain ⟨Ds,h1,h2,h3⟩ := s.defers
    refine ⟨w.heap.size :: Ds,by rw [hap];show [mkD w.heap.size] ++ a.defers = _;rw [h1];rfl,List.nodup_cons.2 ⟨fun hm => ?_,h2⟩,fun D hD => ?_⟩
    · obtain ⟨g1,g2,_⟩ := h3 _ hm
      have := lt_of_heap g2;omega
    · rcases List.mem_cons.1 hD with rfl | hD
      · exact ⟨hFam.lo e hF _ s.kept.size,hD0,(newn _ (Nat.le_refl _)).1,(newn _ (Nat.le_refl _)).2⟩
      · obtain ⟨g1,g2,g3,g4⟩ := h3 D hD
        exact ⟨g1,(hgrow.old D (lt_of_heap g2)).trans g2,g3,g4⟩
  have hks : ∀ id ch,Phi.get e.Φ id = some ch → ch.kind ≠ 0 → ∃ ch0,Phi.get Φ id = some ch0 ∧ ch0.kind = ch.kind := fun id ch h hk => (s.kept.keep id ch h hk).2
  have hel : ¬ e.S l := fun hS => by
    have := s.kept.slt l hS
    have := s.kept.size
    omega
  have hagP : Agree r β σI ap.tmps := by rw [hap];exact hagI
  let J : Nat → (Nat → Prop) → World → Prop := fun i S W => ∃ x r' β',C i x ∧ JS B e N r β Φ σI (jMI (F' x) Φ) rec l ap S W r' β'
  let Jx : (Nat → Prop) → World → Prop := fun S W => ∃ (ex : Ex) (c : Code) (r' : Mem) (β' : jKW) (Φ' : Phi) (n' : Nat),((ex = .ret ∧ c = .ret) ∨ ∃ id,ex = .exit id ∧ c = .exit id) ∧ K ex σI Φ' n' ∧
    JS B e N r β Φ σI Φ' { rec with state := .done,pending := some c } l ap S W r' β'
  have hJ : ∀ i S W,J i S W → (∀ b,S b → b < W.heap.size ∧ r b = none) ∧ ∀ W',Oth r S W W' → J i S W' := by
    rintro i S W ⟨x,r', β',hC,hj⟩
    exact ⟨fun b hb => hj.lt hb,fun W' ho => ⟨x,r', β',hC,hj.stable ho⟩⟩
  have hJx : ∀ S W,Jx S W → (∀ b,S b → b < W.heap.size ∧ r b = none) ∧ ∀ W',Oth r S W W' → Jx S W' := by
    rintro S W ⟨ex,c,r', β', Φ',n',hc,hK,hj⟩
    exact ⟨fun b hb => hj.lt hb,fun W' ho => ⟨ex,c,r', β', Φ',n',hc,hK,hj.stable ho⟩⟩
  have hJ0 : ∃ S,J 0 S W0 := by
    obtain ⟨r1, β1,s1,hle1,hkh1,hH1⟩ := jTG s0 he hng hks
    obtain ⟨q1,q2⟩ := hH1 l (newn l (by omega)).1 (newn l (by omega)).2
    exact ⟨_,a0,r1, β1,h0,s1,hle1,hkh1,hl0,q1,q2,rfl⟩
  have hY : ∀ i S W r'' β'' vs,J i S W → i < len → r.le r'' → (∀ b o,r'' b = some o → W.heap[b]? = some o) → (∀ b,S b → r'' b = none) → jKS r'' β'' (at_ i) vs → jOT B.P l vs W fun en W' => ∃ b S',en = .returned (.bool b) ∧ Own S W W' ∧ (∀ z,S' z → S z ∨ W.heap.size ≤ z) ∧ (bif b then J (i + 1) S' W' else Jx S' W') := by
    rintro i S W r'' β'' vs ⟨z,r', β',hC,hj⟩ hi _ _ _ hvs
    have hb := hr i z hC hi
    rw [jPX,jLE, ← hσI] at hb
    cases hpl1 : jR4 (at_ i) with
    | false => rw [hpl1] at hb;exact hb.elim
    | true =>
    rw [hpl1] at hb
    have hb : joO ps (at_ i) σI _ := hb
    obtain ⟨σr,hb,hlenp,hpar⟩ := jVV hb
    have hvs' : jKS r' β' (at_ i) vs := ⟨hvs.1,fun k sv v q1 q2 => jR5 (hvs.2 k sv v q1 q2) (jUX hpl1 k sv q1) r' β'⟩
    have hsz : vs.toArray.size = rec.params.size := by
      rw [hrec];simp;rw [hvs.1,hlenp]
    refine ⟨rec.fn,_,rec.assign,rec.body,run_yield hj.rc hsz,?_⟩
    have htm : rec.tmps = a.tmps := by rw [hrec]
    have hpm : rec.params = ⟨ps⟩ := by rw [hrec]
    have has : rec.assign = x := by rw [hrec]
    have hbo : rec.body = y := by rw [hrec]
    rw [has,hbo]
    have hfold : (rec.params.zip vs.toArray).foldl (fun tmps (x : Tmp × Value) => tmps.setIfInBounds x.1 x.2) rec.tmps = (ps.zip vs).foldl (fun tmps x => tmps.setIfInBounds x.1 x.2) a.tmps := by
      rw [htm,hpm]
      rw [← Array.foldl_toList]
      simp
    have hagW : Agree r' β' σI a.tmps := by have := hj.sat.agree;rw [hap] at this;exact this
    have hsza : a.tmps.size = N := s.size
    obtain ⟨hagr,hngr⟩ := hpar hagW hvs' hng (fun p hp => by rw [hsza];exact hps p hp)
    refine roundIn_of_wpIn (F := fc none) trivial ?_
    show x.wpIn (fc (some l)) 0 B.P _ _ W
    have hszr : ∀ (zs : List (Nat × Value)) (t : Array Value),(zs.foldl (fun tmps x => tmps.setIfInBounds x.1 x.2) t).size = t.size := by
      intro zs
      induction zs with
      | nil => intro t;rfl
      | cons q zs ih => intro t;rw [List.foldl_cons,ih];simp
    have sa : Sat B (Entry.of r' β' (jMI (F' z) Φ) W) N r' β' σr (jMI (F' z) Φ) { tmps := (rec.params.zip vs.toArray).foldl (fun tmps (x : Tmp × Value) => tmps.setIfInBounds x.1 x.2) rec.tmps,defers := [] } W := by
      refine ⟨by rw [hfold];exact hagr,hj.sat.mem,hj.sat.G,Kept.refl ..,⟨[],rfl,List.nodup_nil,fun D hD => (List.not_mem_nil hD).elim⟩,by rw [hfold,hszr];exact hsza⟩
    refine wpIn_mono (ihx (fun e' => e' = Entry.of r' β' (jMI (F' z) Φ) W) (YOk.none hlen) (FamOk.one (fun _ h => h)) (some l) _ _ r' β' σr _ m _ W rfl hb sa hngr) fun ex1 a1 W1 hq => ?_
    cases ex1 with
    | exit i => obtain ⟨_,_,_,_,_,_,_,hk,_⟩ := hq;exact hk.elim
    | ret => obtain ⟨_,_,_,_,_,_,_,hk,_⟩ := hq;exact hk.elim
    | goto l => exact hq.elim
    | panic ch => exact hq.elim
    | outgrown => exact hq.elim
    | normal =>
    obtain ⟨ea,r1, β1, σ1, Φ1,n1,rfl,hbody,s1,hng1⟩ := hq
    have hlW : l < W.heap.size := lt_of_heap hj.rc
    have hidl : hidS r' β' (jMI (F' z) Φ) W l := ⟨hlW,hj.hr,hj.hΦ⟩
    obtain ⟨hl1,hr1l,hΦ1l⟩ := s1.kept.block l hidl
    have hl1' : W1.heap[l]? = some (.loop rec) := hl1.trans hj.rc
    refine ⟨_,run_beginRound hl1' (by rw [hrec]),?_⟩
    have hW2 : ∀ b,b ≠ l → (W1.putObj l (.loop { rec with state := .busy })).heap[b]? = W1.heap[b]? := fun b hb => World.putObj_heap_other hb
    obtain ⟨W2,hW2e⟩ : ∃ W2,W2 = W1.putObj l (.loop { rec with state := .busy }) := ⟨_,rfl⟩
    rw [← hW2e] at hW2 ⊢
    have hsz2 : W2.heap.size = W1.heap.size := by rw [hW2e];simp
    have hos2 : W2.os = W1.os ∧ W2.tape = W1.tape ∧ W2.output = W1.output := by rw [hW2e];exact ⟨rfl,rfl,rfl⟩
    have sb : Sat B ⟨r1,hidS r1 β1 Φ1 W1,fun D => W.heap.size ≤ D, β1, Φ1,W2⟩ N r1 β1 σ1 Φ1 a1 W2 := by
      rw [hW2e]
      refine jSG s1 (lt_of_heap hl1') hr1l hΦ1l (fun Ds hd hm => ?_) s1.agree rfl s1.size (fun _ h => h) ⟨Mem.le_refl r1,rfl,rfl,rfl,Nat.le_refl _,fun b hb => ⟨rfl,hb.2.1,hb.2.2⟩,fun id ch hi _ => ⟨rfl,ch,hi,rfl⟩,fun b hb => by rw [World.putObj_size];exact hb.1⟩
      obtain ⟨Ds',k1,k2,k3⟩ := s1.defers
      obtain rfl : Ds = Ds' := jXU (hd.symm.trans k1)
      obtain ⟨g1,g2,_⟩ := k3 l hm
      rw [hl1'] at g2;cases g2
    refine wpIn_mono (ihy (fun e' => e' = ⟨r1,hidS r1 β1 Φ1 W1,fun D => W.heap.size ≤ D, β1, Φ1,W2⟩) (YOk.none hlen) (FamOk.one (fun D h => Nat.le_trans (show W.heap.size ≤ W2.heap.size by rw [hsz2];exact s1.kept.size) h)) (some l) _ _ r1 β1 σ1 Φ1 n1 a1 W2 rfl hbody sb hng1) fun ex3 a3 W3 hq => ?_
    have back : ∀ {r3 β3 σ3 Φ3} (s3 : Sat B ⟨r1,hidS r1 β1 Φ1 W1,fun D => W.heap.size ≤ D, β1, Φ1,W2⟩ N r3 β3 σ3 Φ3 a3 W3) (o : Obj),_ := fun s3 o => jVW hj hel hst hagP s1.kept hW2 hsz2 hos2 s3.kept s3.mem s3.G o
    have recl : ∀ {r3 β3 σ3 Φ3} (s3 : Sat B ⟨r1,hidS r1 β1 Φ1 W1,fun D => W.heap.size ≤ D, β1, Φ1,W2⟩ N r3 β3 σ3 Φ3 a3 W3),W3.heap[l]? = some (.loop { rec with state := .busy }) := by
      intro r3 β3 σ3 Φ3 s3
      obtain ⟨g1,_⟩ := s3.kept.block l ⟨lt_of_heap hl1',hr1l,hΦ1l⟩
      rw [g1,hW2e]
      exact jN4 (lt_of_heap hl1')
    have bounds : ∀ {rn : Mem} {βn : jKW} {Φn : Phi},r.le rn → (∀ id ch b,Phi.get Φn id = some ch → ch.hb (βn id) b → rn b = none) →
        (∀ b,hidS r' β' (jMI (F' z) Φ) W b → rn b = none ∧ ∀ id ch,Phi.get Φn id = some ch → ¬ ch.hb (βn id) b) → ∀ b,SJ e r rn βn Φn l ap b → S b ∨ W.heap.size ≤ b := by
      intro rn βn Φn hlen hsep hh b hb
      rcases Nat.lt_or_ge b W.heap.size with hlt | hge
      · left
        rw [hj.S]
        refine Classical.byContradiction fun hS => ?_
        have hid : r b = none → hidS r' β' (jMI (F' z) Φ) W b := by
          intro hq0
          refine ⟨hlt,?_,fun id ch hi hbk => hS (.inr (.inl ⟨id,ch,hi,hbk⟩))⟩
          cases hq : r' b with
          | none => rfl
          | some o => exact (hS (.inl ⟨by rw [hq];simp,hq0⟩)).elim
        rcases hb with ⟨h1,h2⟩ | ⟨id,ch,h1,h2⟩ | h1 | h1 | h1
        · exact h1 (hh b (hid h2)).1
        · exact (hh b (hid (jMY hlen (hsep id ch b h1 h2)))).2 id ch h1 h2
        · exact hS (.inr (.inr (.inl h1)))
        · exact hS (.inr (.inr (.inr (.inl h1))))
        · exact hS (.inr (.inr (.inr (.inr h1))))
      · exact .inr hge
    have jump : ∀ {r3 β3 σ3 Φ3 n3} (s3 : Sat B ⟨r1,hidS r1 β1 Φ1 W1,fun D => W.heap.size ≤ D, β1, Φ1,W2⟩ N r3 β3 σ3 Φ3 a3 W3) (ex : Ex) (c : Code),((ex = .ret ∧ c = .ret) ∨ ∃ id,ex = .exit id ∧ c = .exit id) → K ex σI Φ3 n3 →
        ∃ v w',(Instr.endRound l (some c)).run B.P W3 = .ok v w' ∧ ∃ b S',Ending.returned v = .returned (.bool b) ∧ Own S W w' ∧ (∀ z,S' z → S z ∨ W.heap.size ≤ z) ∧ (bif b then J (i + 1) S' w' else Jx S' w') := by
      intro r3 β3 σ3 Φ3 n3 s3 ex c hc hk
      obtain ⟨sB,q1,q2,q3,q4,q5,q6,q7⟩ := back s3 (.loop { rec with state := .done,pending := some c })
      refine ⟨_,_,run_endRound (some c) (recl s3),false,_,rfl,q5,bounds q1 (fun id ch b h1 h2 => s3.mem.sep id ch b h1 h2) q6,ex,c,r3, β3, Φ3,n3,hc,hk,sB,q1,q2,jN4 q7,q3,q4,rfl⟩
    cases ex3 with
    | normal =>
      obtain ⟨eb,r3, β3, σ3, Φ3,n3,rfl,⟨⟨z',hz',hent⟩⟩,s3,hng3⟩ := hq
      rw [jLE, ← hσI] at hent
      obtain ⟨sB,q1,q2,q3,q4,q5,q6,q7⟩ := back s3 (.loop rec)
      obtain ⟨rn, βn,sn,hlen,hkn,hHn⟩ := jTG sB hent hng hks
      have hrun : (Instr.endRound l none).run B.P W3 = .ok (.bool true) (W3.putObj l (.loop rec)) := by
        rw [run_endRound none (recl s3),hrec];rfl
      refine ⟨_,_,hrun,true,SJ e r rn βn (jMI (F' z') Φ) l ap,rfl,?_⟩
      refine ⟨q5,bounds (Mem.le_trans q1 hlen) (fun id ch b h1 h2 => sn.mem.sep id ch b h1 h2) (fun b hb => hHn b (q6 b hb).1 (q6 b hb).2),z',rn, βn,hz',sn,Mem.le_trans q1 hlen,fun id ch hi hk => ?_,jN4 q7,(hHn l q3 q4).1,(hHn l q3 q4).2,rfl⟩
      obtain ⟨y1,y2⟩ := hkn id ch hi hk
      obtain ⟨x1,_⟩ := q2 id ch hi hk
      exact ⟨y1.trans x1,y2⟩
    | ret =>
      obtain ⟨eb,r3, β3, σ3, Φ3,n3,rfl,hk,s3,hng3⟩ := hq
      exact jump s3 .ret .ret (.inl ⟨rfl,rfl⟩) hk
    | exit id =>
      obtain ⟨eb,r3, β3, σ3, Φ3,n3,rfl,hk,s3,hng3⟩ := hq
      exact jump s3 (.exit id) (.exit id) (.inr ⟨id,rfl,rfl⟩) hk
    | goto t => exact hq.elim
    | panic ch => exact hq.elim
    | outgrown => exact hq.elim
  obtain ⟨S0,hJ0⟩ := hJ0
  have hcs0 : jKS r β0 caps cs := ⟨hcs.1,fun k sv v q1 q2 => (hcs.2 k sv v q1 q2).bind (p := fun _ => false) (fun _ h => by cases h) (SV.okIdsL_get hpl k sv q1)⟩
  have mB : MemSat r Go.Vc.β0 [] W0 := ⟨m0.vis,fun id ch h => by simp [Phi.get] at h,fun id ch b h => by simp [Phi.get] at h,fun id id' ch ch' b h => by simp [Phi.get] at h⟩
  have hcall := it.ok hp.h l r J Jx hJ hJx hY Go.Vc.β0 W0 cs S0 s.G mB hcs0 hJ0
  refine ⟨l,[mkD w.heap.size],W0, { target := .fn (.func f) cs.toArray,args := #[jXX l] },W0,f,(jXX l :: cs).toArray,W0,hent,?_,fun _ _ => trivial,?_,fun h => by simp [fc,Fence.wide] at h,jM8.2 (hcall.mono ?_)⟩
  · simp only [rangeCall,resolve,hgv,Deferred.ofValue]
    have e1 : (#[] : Array Value) ++ Array.map a.eval #[Operand.const (Value.func (Fn.yield l) #[] #[])] = #[jXX l] := by simp [jXX,Act.eval]
    rw [e1];rfl
  · have e1 : (#[jXX l] : Array Value) ++ cs.toArray = (jXX l :: cs).toArray := by simp
    simp only [invoke]
    rw [e1]
    exact it.call _ _
  · rintro en W' ⟨⟨v,rfl⟩,S',hj | hj⟩
    · obtain ⟨z,r', β',hC,hj⟩ := hj
      have hk := hend z hC
      rw [jPX,jLE, ← hσI] at hk
      refine ⟨none,W'.putObj l (.loop { rec with state := .exhausted }),?_,?_⟩
      · have := run_endLoop (P := B.P) hj.rc (by rw [hrec];simp)
        rw [this,hrec]
      · rw [← hap]
        exact ⟨e,r', β', σI,_,m,hF,hk,hj.turn hel _,hng⟩
    · obtain ⟨ex,c,r', β', Φ',n',hc,hK,hj⟩ := hj
      refine ⟨some c,_,run_endLoop hj.rc (by simp),?_⟩
      rw [← hap]
      rcases hc with ⟨rfl,rfl⟩ | ⟨id,rfl,rfl⟩
      · exact wpIn_ret ⟨e,r', β', σI, Φ',n',hF,hK,hj.turn hel _,hng⟩
      · exact wpIn_exit ⟨e,r', β', σI, Φ',n',hF,hK,hj.turn hel _,hng⟩
end Go.Vc

namespace Go.Vc
set_option autoImplicit false
structure PlanT (all : List Oper) (plan : List Nat) (i : Nat) (o : Oper) (d : Nat) : Prop where
 hf : (floats o.op || reads o.op) = true
 hg : o.guard = none
 hd : o.dst = some d
 hr : ∀ (j : Nat) (oj : Oper),j ≤ i → all[j]? = some oj → d ∉ oj.looksAt all.toArray
 hw : ∀ (j : Nat) (oj : Oper) (d' : Nat),j < i → plan[j]? ≠ some 0 → all[j]? = some oj → oj.dst = some d' → .tmp d' ∉ o.op.operands.toList
theorem jeK {all : List Oper} {plan : List Nat} (h : jnR all plan = true) : plan.length = all.length ∧ (∀ (i : Nat) (o : Oper),all[i]? = some o → plan[i]? = some 0 → ∃ d,PlanT all plan i o d) ∧
    (∀ (i : Nat),i < all.length → plan[i]? = some 0 ∨ plan[i]? = some 6) ∧ ∀ (i : Nat) (o : Oper),all[i]? = some o → plan[i]? = some 6 → o.guard = none := by
  have key : ∀ (ps : List Nat) (ops : List Oper) (k : Nat),jQZ all plan k ps ops = true → ps.length = ops.length ∧ ∀ (i : Nat) (o : Oper) (p : Nat),ops[i]? = some o → ps[i]? = some p →
      (match p with
       | 0 => (floats o.op || reads o.op) && ((match o.guard with | none => true | some _ => false) && ((match o.dst with | some d => jK4 all.toArray d (all.take (k + i + 1)) | none => false) && jK2 (jL3 o.op.operands.toList) (plan.take (k + i)) (all.take (k + i))))
       | 6 => (match o.guard with | none => true | some _ => false)
       | _ => false) = true := by
    intro ps
    induction ps with
    | nil =>
      intro ops k h
      cases ops with
      | nil => exact ⟨rfl,fun i o p h => by simp at h⟩
      | cons => cases h
    | cons p0 ps ih =>
      intro ops k h
      cases ops with
      | nil => cases h
      | cons o0 ops =>
        simp only [jQZ,Bool.and_eq_true] at h
        obtain ⟨h1,h2⟩ := h
        obtain ⟨g1,g2⟩ := ih ops (k + 1) h2
        refine ⟨by simp [g1],fun i o p ho hp => ?_⟩
        cases i with
        | zero => simp at ho hp;subst ho;subst hp;exact h1
        | succ i =>
          have := g2 i o p (by simpa using ho) (by simpa using hp)
          rw [show k + (i + 1) = k + 1 + i by omega];exact this
  obtain ⟨hl,hk⟩ := key plan all 0 h
  refine ⟨hl,fun i o ho hp => ?_,fun i hi => ?_,fun i o ho hp => ?_⟩
  · have := hk i o _ ho hp
    simp only [Nat.zero_add] at this
    rw [Bool.and_eq_true,Bool.and_eq_true,Bool.and_eq_true] at this
    obtain ⟨h1,h2,h3,h4⟩ := this
    cases hd : o.dst with
    | none => rw [hd] at h3;cases h3
    | some d =>
      rw [hd] at h3
      refine ⟨d,h1,?_,hd,fun j oj hj hoj => ?_,fun j oj d' hj hpj hoj hdj hm => ?_⟩
      · cases hg : o.guard with
        | none => rfl
        | some _ => rw [hg] at h2;cases h2
      · exact jLI h3 oj (List.mem_of_getElem? (i := j) (by rw [List.getElem?_take,if_pos (by omega)];exact hoj))
      · have hjl : j < plan.length := by have := jKM hp;omega
        refine hpj ?_
        have := jLO h4 j plan[j] oj d' (by rw [List.getElem?_take,if_pos hj];exact List.getElem?_eq_getElem hjl) (by rw [List.getElem?_take,if_pos hj];exact hoj) hdj (jNH.2 hm)
        rw [List.getElem?_eq_getElem hjl,this]
  · have hi' : i < plan.length := by omega
    have hp : plan[i]? = some plan[i] := List.getElem?_eq_getElem hi'
    have := hk i all[i] _ (List.getElem?_eq_getElem hi) hp
    split at this
    · rename_i he;rw [hp,he];exact .inl rfl
    · rename_i he;rw [hp,he];exact .inr rfl
    · cases this
  · have := hk i o _ ho hp
    cases hg : o.guard with
    | none => rfl
    | some _ => rw [hg] at this;cases this
theorem jgQ {plan : List Nat} : ∀ {k i : Nat},i ∈ jYR k plan ↔ ∃ j,i = k + j ∧ plan[j]? = some 6 := by
 induction plan with
 | nil => intro k i;simp [jYR]
 | cons p r ih =>
  intro k i
  have step : i ∈ jYR (Nat.succ k) r ↔ ∃ j,i = k + (j + 1) ∧ (p :: r)[j + 1]? = some 6 := by
   rw [ih]
   constructor
   ·rintro ⟨j,h1,h2⟩;exact ⟨j,by omega,by simpa using h2⟩
   ·rintro ⟨j,h1,h2⟩;exact ⟨j,by omega,by simpa using h2⟩
  unfold jYR
  cases hb : Nat.beq p 6 with
  | true =>
   obtain rfl := jKF hb
   simp only [cond_true,List.mem_cons,step]
   constructor
   ·rintro (rfl | ⟨j,h1,h2⟩)
    ·exact ⟨0,by omega,by simp⟩
    ·exact ⟨j + 1,h1,h2⟩
   ·rintro ⟨j,h1,h2⟩
    cases j with
    | zero => exact .inl (by omega)
    | succ j => exact .inr ⟨j,h1,h2⟩
  | false =>
   simp only [cond_false,step]
   constructor
   ·rintro ⟨j,h1,h2⟩;exact ⟨j + 1,h1,h2⟩
   ·rintro ⟨j,h1,h2⟩
    cases j with
    | zero => simp at h2;subst h2;simp at hb
    | succ j => exact ⟨j,h1,h2⟩
def Old (w0 w : World) : Prop := w.os = w0.os ∧ w.tape = w0.tape ∧ w.output = w0.output ∧ w0.heap.size ≤ w.heap.size ∧ ∀ b,b < w0.heap.size → w.heap[b]? = w0.heap[b]?
theorem Old.near {r β Φ w0 w} (m : MemSat r β Φ w0) (h : Old w0 w) : Near r β Φ w0 w := by
 obtain ⟨h1,h2,h3,h4,h5⟩ := h
 refine ⟨⟨fun b o hb => ?_,fun id ch hi => (m.chs _ _ hi).keep (Mem.le_refl r) (fun b hb => h5 b (jNR m hi hb)) (fun _ _ _ _ _ _ _ h => h),m.sep,m.nod⟩,fun id ch b hi hb => h5 b (jNR m hi hb),h1,h2,h3,h4,fun b hb q1 q2 => ⟨h5 b hb,q1,q2⟩,fun _ ch h _ => ⟨rfl,ch,h,rfl⟩⟩
 have := m.vis b o hb
 rw [h5 b (jMR this)];exact this
theorem jjO {B : Base} {Φ σ op} {K : SV → Prop} (hfl : (floats op || reads op) = true) (h : evK B Φ σ [] (fun p => p) false op K) :
  ∃ sv,K sv ∧ ∀ p r β a w0,(∀ x ∈ op.operands.toList,Has p x) → Sm p r β σ (Act.tmps a) [] (fun p => p) → MemSat r β Φ w0 → ∀ dst ty pos after guard,∃ v,Rel r β sv v ∧ ∀ w,Old w0 w → (execOp a.eval ⟨dst,op,ty,pos,after,guard⟩).run B.P w = .ok (.value v) w := by
 cases hf : floats op with
 | true =>
  obtain ⟨sv,hk,hr⟩ := jUP hf h
  exact ⟨sv,hk,fun p r β a w0 hP sm m dst ty pos after guard => by
   obtain ⟨v,q1,q2⟩ := hr p r β a hP sm dst ty pos after guard
   exact ⟨v,q1,fun w _ => q2 w⟩⟩
 | false =>
 rw [hf,Bool.false_or] at hfl
 unfold reads at hfl
 split at hfl
 ·-- load
  simp only [evK] at h
  obtain ⟨sx,h,hx⟩ := jKC h
  obtain ⟨sv,hk,hr⟩ := jO9 h
  refine ⟨sv,hk,fun p r β a w0 hP sm m dst ty pos after guard => ?_⟩
  obtain ⟨v,hv,hw⟩ := hr sm.valid r β _ (hx p r β a _ (hP _ (by simp [Op.operands])) sm) w0 m
  exact ⟨v,hv,fun w ho => by simp only [execOp,Sem.run_bind,hw w (ho.near m),Result.andThen_ok,Sem.run_pure]⟩
 ·-- indexAddr
  simp only [evK] at h
  obtain ⟨sx,h,hx⟩ := jKC h
  obtain ⟨si,h,hi⟩ := jKC h
  obtain ⟨sv,hk,hr⟩ := jN3 h
  refine ⟨sv,hk,fun p r β a w0 hP sm m dst ty pos after guard => ?_⟩
  obtain ⟨v,hv,hw⟩ := hr sm.valid r β _ _ (hx p r β a _ (hP _ (by simp [Op.operands])) sm) (hi p r β a _ (hP _ (by simp [Op.operands])) sm) w0 m
  exact ⟨v,hv,fun w ho => by simp only [execOp,Sem.run_bind,hw w,Result.andThen_ok,Sem.run_pure]⟩
 ·-- builtin
  rename_i b xs0 ts0
  obtain ⟨xs⟩ := xs0
  obtain ⟨ts⟩ := ts0
  simp only [evK] at h
  have hops : ∀ x,x ∈ xs → x ∈ (Op.operands (.call ⟨.builtin b,⟨xs⟩,⟨ts⟩⟩)).toList := fun x hx => by simp [Op.operands,Call.operands,hx]
  obtain ⟨l,h,h1,h2⟩ := jL6 h
  obtain ⟨sv,hk,hr⟩ := jPI h (fun hu => by cases hu)
  refine ⟨sv,hk,fun p r β a w0 hP sm m dst ty pos after guard => ?_⟩
  obtain ⟨v,hv,hw⟩ := hr r β _ (jWO h1 (h2 p r β a _ (fun x hx => hP _ (hops x hx)) sm))
  refine ⟨v,hv,fun w ho => ?_⟩
  have := hw w ty (Array.map (fun | .const _ => true | _ => false) (⟨xs⟩ : Array Operand)) (ho.near m).mem
  simp only [execOp,resolve,Sem.run_bind,Sem.run_pure,Result.andThen_ok,invoke]
  rw [show Array.map a.eval ⟨xs⟩ = (xs.map a.eval).toArray by simp]
  exact this
 ·cases hfl
def jnJ (P : Program) (w0 : World) (all : List Oper) (plan : List Nat) (k : Nat) (b : Act) : Prop :=
 ∀ (i : Nat) (o : Oper) (d : Nat),i < k → plan[i]? = some 0 → all[i]? = some o → o.dst = some d → ∃ v,b.tmps[d]? = some v ∧ ∀ w,Old w0 w → (execOp b.eval o).run P w = .ok (.value v) w
theorem jcQ {op : Op} (h : (floats op || reads op) = true) : ∀ cs b,op ≠ .select cs b := fun cs b hc => by subst hc;cases h
theorem jbR {op : Op} (h : (floats op || reads op) = true) : ∀ c,op ≠ .defer c := fun c hc => by subst hc;cases h
theorem jeL {B : Base} {N : Nat} {all : List Oper} {plan : List Nat} (ok : RegOk N all) (hlen : plan.length = all.length) (hpl : ∀ (i : Nat) (o : Oper),all[i]? = some o → plan[i]? = some 0 → ∃ d,PlanT all plan i o d) {r : Mem} {β : jKW} {Φ : Phi} {K : Env → Prop} {w0 : World} (m : MemSat r β Φ w0) :
    ∀ (l : List Oper) (k : Nat) (σ : Env) (b : Act),k + l.length = all.length → l = all.drop k → vcT B (plan.drop k) l σ Φ K → Agree r β σ b.tmps → jN0 σ → b.tmps.size = N → jnJ B.P w0 all plan k b →
      ∃ σT bT,K σT ∧ Agree r β σT bT.tmps ∧ jN0 σT ∧ bT.tmps.size = N ∧ bT.defers = b.defers ∧ jnJ B.P w0 all plan all.length bT ∧
        ∀ t,(∀ (j : Nat) (oj : Oper),k ≤ j → plan[j]? = some 0 → all[j]? = some oj → oj.dst ≠ some t) → bT.tmps[t]? = b.tmps[t]? ∧ Env.get σT t = Env.get σ t := by
  intro l
  induction l with
  | nil =>
    intro k σ b hk he h ha hng hsz hT
    have : vcT B (plan.drop k) [] σ Φ K = K σ := by
      cases plan.drop k with
      | nil => rfl
      | cons x r => cases x <;> rfl
    rw [this] at h
    exact ⟨σ,b,h,ha,hng,hsz,rfl,by rw [← hk];simpa using hT,fun t _ => ⟨rfl,rfl⟩⟩
  | cons o l ih =>
    intro k σ b hk he h ha hng hsz hT
    have hkl : k < all.length := by simp at hk;omega
    have ho : all[k]? = some o := by
      have : (all.drop k)[0]? = some o := by rw [← he];rfl
      simpa using this
    have hl : l = all.drop (k + 1) := by
      have := congrArg List.tail he
      simpa using this
    have hkp : k < plan.length := by omega
    have hp : plan[k]? = some plan[k] := List.getElem?_eq_getElem hkp
    have hpd : plan.drop k = plan[k] :: plan.drop (k + 1) := List.drop_eq_getElem_cons hkp
    rw [hpd] at h
    by_cases h0 : plan[k] = 0
    · rw [h0] at h hp
      obtain ⟨dst,op,ty,pos,after,guard⟩ := o
      have h : evK B Φ σ [] (fun p => p) false op fun sv => vcT B (plan.drop (k + 1)) l (jS3 dst none sv σ) Φ K := h
      obtain ⟨d,hf,hg,hd,hr,hw⟩ := hpl k _ ho hp
      have hd : dst = some d := hd
      subst hd
      obtain ⟨sv,h,hv⟩ := jjO hf h
      obtain ⟨v,hrel,hrun⟩ := hv _ r β b w0 (fun _ _ => jSN _) (Sm.plain ha) m (some d) ty pos after guard
      have hdN : d < N := ok.lt _ (List.mem_of_getElem? ho) d rfl
      have ha' : Agree r β ((d,none,sv) :: σ) (b.put (some d) v).tmps := ha.put (hng.gdIn []) (by simp) (by rw [hsz];exact hdN) hrel
      have hT' : jnJ B.P w0 all plan (k + 1) (b.put (some d) v) := by
        intro i oi di hi hpi hoi hdi
        obtain ⟨_,hfi,_⟩ := hpl i oi hoi hpi
        have hns := jcQ hfi
        have hex : execOp (b.put (some d) v).eval oi = execOp b.eval oi := execOp_put (ops := all.toArray) oi hns b (some d) v (fun d' hd' => by cases hd';exact hr i oi (by omega) hoi)
        by_cases hik : i = k
        · subst hik
          rw [ho] at hoi;cases hoi;cases hdi
          exact ⟨v,put_eq (by rw [hsz];exact hdN),fun w hw => by rw [hex];exact hrun w hw⟩
        · obtain ⟨v',q1,q2⟩ := hT i oi di (by omega) hpi hoi hdi
          have hne : di ≠ d := by
            rintro rfl
            exact hik (ok.uniq hoi ho hdi rfl)
          exact ⟨v',by rw [jN9 hne];exact q1,fun w hw => by rw [hex];exact q2 w hw⟩
      obtain ⟨σT,bT,g1,g2,g3,g4,g5,g6,g7⟩ := ih (k + 1) _ _ (by simp at hk ⊢;omega) hl h ha' (hng.put d sv) (by rw [jK0];exact hsz) hT'
      refine ⟨σT,bT,g1,g2,g3,g4,by rw [g5,put_defers],g6,fun t ht => ?_⟩
      obtain ⟨q1,q2⟩ := g7 t (fun j oj hj => ht j oj (by omega))
      have hne : t ≠ d := by
        rintro rfl
        exact ht k _ (Nat.le_refl k) hp ho rfl
      refine ⟨by rw [q1,jN9 hne],?_⟩
      rw [q2]
      show Env.get ((d,none,sv) :: σ) t = _
      rw [jKO,jKL (fun hh => hne hh.symm)];rfl
    · have h : vcT B (plan.drop (k + 1)) l σ Φ K := by
        match hq : plan[k],h0,h with
        | n + 1,_,h => exact h
      obtain ⟨σT,bT,g1,g2,g3,g4,g5,g6,g7⟩ := ih (k + 1) _ _ (by simp at hk ⊢;omega) hl h ha hng hsz (fun i oi di hi hpi hoi hdi => by
        by_cases hik : i = k
        · subst hik;rw [hp] at hpi;exact absurd (Option.some.inj hpi) h0
        · exact hT i oi di (by omega) hpi hoi hdi)
      exact ⟨σT,bT,g1,g2,g3,g4,g5,g6,fun t ht => g7 t (fun j oj hj => ht j oj (by omega))⟩
theorem jYU {r β t} : ∀ {σ : Env},Agree r β σ t → Agree r β (jOU σ) t ∧ True := by
 intro σ h
 refine ⟨fun k g sv hg => ?_,trivial⟩
 have key : ∀ (σ : Env) k g sv,Env.get (jOU σ) k = some (g,sv) → ∃ sv0,Env.get σ k = some (g,sv0) ∧ sv = (bif sv0.okIds (fun _ => false) then sv0 else .und) := by
  intro σ
  induction σ with
  | nil => intro k g sv h;cases h
  | cons x r ih =>
   obtain ⟨k0,g0,sv0⟩ := x
   intro k g sv h
   simp only [jOU,jKO] at h ⊢
   cases hb : Nat.beq k0 k with
   | true => rw [hb] at h;simp only [cond_true,Option.some.injEq,Prod.mk.injEq] at h ⊢;exact ⟨sv0,⟨h.1,rfl⟩,h.2.symm⟩
   | false => rw [hb] at h;simp only [cond_false] at h ⊢;exact ih k g sv h
 obtain ⟨sv0,h1,rfl⟩ := key σ k g sv hg
 have hu : ∀ v,Rel r β sv0 v → Rel r β (bif sv0.okIds (fun _ => false) then sv0 else .und) v := by
  intro v hv
  cases sv0.okIds (fun _ => false) with
  | true => exact hv
  | false => exact .und
 have := h k g sv0 h1
 cases g with
 | none => obtain ⟨v,q1,q2⟩ := this;exact ⟨v,q1,hu v q2⟩
 | some p => obtain ⟨s,w⟩ := p;exact ⟨fun hs => by obtain ⟨v,q1,q2⟩ := this.1 hs;exact ⟨v,q1,hu v q2⟩,this.2⟩
theorem jcT {σ : Env} (h : jN0 σ) : jN0 (jOU σ) := by
 have key : ∀ (σ : Env) k g sv,Env.get (jOU σ) k = some (g,sv) → ∃ sv0,Env.get σ k = some (g,sv0) := by
  intro σ
  induction σ with
  | nil => intro k g sv h;cases h
  | cons x r ih =>
   obtain ⟨k0,g0,sv0⟩ := x
   intro k g sv h
   simp only [jOU,jKO] at h ⊢
   cases hb : Nat.beq k0 k with
   | true => rw [hb] at h;simp only [cond_true,Option.some.injEq,Prod.mk.injEq] at h ⊢;exact ⟨sv0,h.1,rfl⟩
   | false => rw [hb] at h;simp only [cond_false] at h ⊢;exact ih k g sv h
 intro k g sv hg
 obtain ⟨sv0,h1⟩ := key σ k g sv hg
 exact h _ _ _ h1
theorem jhS : ∀ (σ : Env) (K : Env → Prop),jY2 σ K = K (jOU σ) := by
 intro σ
 induction σ with
 | nil => intro K;rfl
 | cons x r ih =>
  obtain ⟨k,g,sv⟩ := x
  intro K
  simp only [jY2,jOU]
  cases sv.okIds (fun _ => false) with
  | true => simp only [cond_true,ih]
  | false => simp only [cond_false,ih]
theorem jYB {σ : Env} : ∀ {ds : List Nat} {K : List SV → Prop},jaB σ ds K → ∃ l,K l ∧ l.length = ds.length := by
 intro ds
 induction ds with
 | nil => intro K h;exact ⟨[],h,rfl⟩
 | cons d ds ih =>
  intro K h
  unfold jaB at h
  split at h
  ·obtain ⟨l,h1,h2⟩ := ih h;exact ⟨_,h1,by simp [h2]⟩
  ·obtain ⟨l,h1,h2⟩ := ih h;exact ⟨_,h1,by simp [h2]⟩
  ·exact h.elim
theorem jbS : ∀ (ds : List Nat) (l : List SV) k g sv,Env.get (jM0 ds l) k = some (g,sv) → g = none := by
 intro ds
 induction ds with
 | nil => intro l k g sv h;cases l <;> cases h
 | cons d ds ih =>
  intro l k g sv h
  cases l with
  | nil => cases h
  | cons x xs =>
   simp only [jM0,jKO] at h
   cases hb : Nat.beq d k with
   | true => rw [hb] at h;simp at h;exact h.1.symm
   | false => rw [hb] at h;exact ih xs k g sv h
theorem ja4 {σ : Env} (hσ : jN0 σ) : ∀ (ds : List Nat) (l : List SV),jN0 (jVN σ ds l) := by
 intro ds
 induction ds with
 | nil => intro l;exact hσ
 | cons d ds ih =>
  intro l
  cases l with
  | nil => exact hσ
  | cons x xs => exact (ih xs).put d x
theorem jcG {r β} {t : Array Value} : ∀ (ds : List Nat) (l : List SV),l.length = ds.length → ds.Nodup → Agree r β (jM0 ds l) t → ∃ vs : List Value,jKS r β l vs ∧ ∀ (i d : Nat),ds[i]? = some d → t[d]? = vs[i]? := by
 intro ds
 induction ds with
 | nil => intro l hl _ _;cases l with | nil => exact ⟨[],⟨rfl,fun i sv v h => by simp at h⟩,fun i d h => by simp at h⟩ | cons => cases hl
 | cons d ds ih =>
  intro l hl hnd h
  cases l with
  | nil => cases hl
  | cons x xs =>
   rw [List.nodup_cons] at hnd
   obtain ⟨v,q1,q2⟩ := h d none x (by simp only [jM0,jKO,Nat.beq_refl];rfl)
   have h' : Agree r β (jM0 ds xs) t := by
    intro k g sv hg
    by_cases hk : d = k
    ·subst hk
     exfalso
     have key : ∀ (ds : List Nat) (l : List SV) k g sv,Env.get (jM0 ds l) k = some (g,sv) → k ∈ ds := by
      intro ds
      induction ds with
      | nil => intro l k g sv h;cases l <;> cases h
      | cons d ds ih =>
       intro l k g sv h
       cases l with
       | nil => cases h
       | cons x xs =>
        simp only [jM0,jKO] at h
        cases hb : Nat.beq d k with
        | true => rw [jKF hb];simp
        | false => rw [hb] at h;exact List.mem_cons_of_mem _ (ih xs k g sv h)
     exact hnd.1 (key _ _ _ _ _ hg)
    ·refine h k g sv ?_
     simp only [jM0,jKO,jKL hk];exact hg
   obtain ⟨vs,⟨r1,r2⟩,r3⟩ := ih xs (by simpa using hl) hnd.2 h'
   refine ⟨v :: vs,⟨by simp [r1],fun i sv u a1 a2 => ?_⟩,fun i d' hd => ?_⟩
   ·cases i with
    | zero => simp at a1 a2;subst a1;subst a2;exact q2
    | succ i => exact r2 i sv u (by simpa using a1) (by simpa using a2)
   ·cases i with
    | zero => simp at hd;subst hd;simpa using q1
    | succ i => simpa using r3 i d' (by simpa using hd)
theorem jfT {σ : Env} {k : Nat} {g : Option (Nat × Bool)} {sv : SV} : ∀ (ds : List Nat) (l : List SV),l.length = ds.length → Env.get (jVN σ ds l) k = some (g,sv) →
  (∃ i : Nat,l[i]? = some sv ∧ ds[i]? = some k ∧ g = none) ∨ (k ∉ ds ∧ Env.get σ k = some (g,sv)) := by
 intro ds
 induction ds with
 | nil => intro l _ h;exact .inr ⟨by simp,h⟩
 | cons d ds ih =>
  intro l hl h
  cases l with
  | nil => cases hl
  | cons x xs =>
   simp only [jVN,jKO] at h
   cases hb : Nat.beq d k with
   | true =>
    obtain rfl := jKF hb
    rw [hb] at h
    simp only [cond_true,Option.some.injEq,Prod.mk.injEq] at h
    obtain ⟨rfl,rfl⟩ := h
    exact .inl ⟨0,rfl,rfl,rfl⟩
   | false =>
    rw [hb] at h
    have hdk : d ≠ k := by rintro rfl;rw [Nat.beq_refl] at hb;cases hb
    rcases ih xs (by simpa using hl) h with ⟨i,h1,h2,h3⟩ | ⟨h1,h2⟩
    ·exact .inl ⟨i + 1,by simpa using h1,by simpa using h2,h3⟩
    ·refine .inr ⟨?_,h2⟩
     intro hm
     cases hm with
     | head => exact hdk rfl
     | tail _ hm => exact h1 hm
theorem jhJ {d : Nat} : ∀ {plan : List Nat} {all : List Oper},d ∈ jNA plan all → ∃ (i : Nat) (o : Oper),plan[i]? = some 6 ∧ all[i]? = some o ∧ o.dst = some d := by
 intro plan
 induction plan with
 | nil => intro all h;cases all <;> cases h
 | cons p ps ih =>
  intro all h
  cases all with
  | nil => unfold jNA at h;split at h <;> first | (rename_i he;cases he) | cases h
  | cons o ops =>
   unfold jNA at h
   split at h
   ·rename_i ps' d' _ _ _ _ _ ops' h1 h2
    cases h1;cases h2
    cases h with
    | head => exact ⟨0,_,rfl,rfl,rfl⟩
    | tail _ h => obtain ⟨i,o',q1,q2,q3⟩ := ih h;exact ⟨i + 1,o',by simpa using q1,by simpa using q2,q3⟩
   ·rename_i h1 h2
    cases h1;cases h2
    obtain ⟨i,o',q1,q2,q3⟩ := ih h;exact ⟨i + 1,o',by simpa using q1,by simpa using q2,q3⟩
   ·cases h
theorem jiH {d : Nat} : ∀ {plan : List Nat} {all : List Oper} {i : Nat} {o : Oper},plan[i]? = some 6 → all[i]? = some o → o.dst = some d → d ∈ jNA plan all := by
 intro plan
 induction plan with
 | nil => intro all i o h;simp at h
 | cons p ps ih =>
  intro all i o hp ho hd
  cases all with
  | nil => simp at ho
  | cons o0 ops =>
   cases i with
   | zero =>
    simp at hp ho;subst hp;subst ho
    obtain ⟨dst,op,ty,pos,after,guard⟩ := o0
    simp only at hd;subst hd
    simp [jNA]
   | succ i =>
    have := ih (by simpa using hp) (by simpa using ho) hd
    unfold jNA
    split
    ·rename_i h1 h2;cases h1;cases h2;exact List.mem_cons_of_mem _ this
    ·rename_i h1 h2;cases h1;cases h2;exact this
    ·rename_i h1 h2;exact absurd rfl (h2 _ _ _ _ rfl)
theorem jcH : ∀ {all : List Oper} {plan : List Nat},(∀ (i j : Nat) (oi oj : Oper) d,all[i]? = some oi → all[j]? = some oj → oi.dst = some d → oj.dst = some d → i = j) → (jNA plan all).Nodup := by
 intro all
 induction all with
 | nil => intro plan _;cases plan with | nil => exact List.nodup_nil | cons p ps => unfold jNA;split <;> first | (rename_i he;cases he) | exact List.nodup_nil
 | cons o ops ih =>
  intro plan hu
  have hu' : ∀ (i j : Nat) (oi oj : Oper) d,ops[i]? = some oi → ops[j]? = some oj → oi.dst = some d → oj.dst = some d → i = j := fun i j oi oj d a b c e => by
   have := hu (i + 1) (j + 1) oi oj d (by simpa using a) (by simpa using b) c e
   omega
  unfold jNA
  split
  ·rename_i ps d op ty pos after guard ops' h1
   cases h1
   rw [List.nodup_cons]
   refine ⟨fun hm => ?_,ih hu'⟩
   obtain ⟨i,o',q1,q2,q3⟩ := jhJ hm
   have := hu 0 (i + 1) _ o' d rfl (by simpa using q2) rfl q3
   omega
  ·rename_i h1;cases h1;exact ih hu'
  ·exact List.nodup_nil
theorem OpTo.wit {P a w o R} (h : OpTo P a w o R) : ∃ v w',R v w' := by
 cases h with
 | val v w' h hr => exact ⟨v,w',hr⟩
 | skip w' h hr => exact ⟨_,w',hr⟩
 | call f args h hc => obtain ⟨e,w',v,_,hr⟩ := jW7 hc;exact ⟨v,w',hr⟩
 | round l f tmps assign body h hc =>
  obtain ⟨e,w',⟨v,_,hr⟩,_⟩ := hc.2 (Frame.enter P f #[] .normal) [] (by simp [fc,Fence.wide,Fence.room])
  exact ⟨v,w',hr⟩
theorem canon {B : Base} {F : Entry → Prop} {N all} (hY : YOk B F N) {K : Env → Phi → Nat → Prop} : ∀ (l : List Oper),(∀ o ∈ l,o.guard = none ∧ ∀ d,o.dst = some d → d < N) → ∀ a w,jQL B F N all [] l K a w → ∃ σ Φ n,K σ Φ n := by
 intro l
 induction l with
 | nil => rintro _ a w ⟨e,r, β, σ, Φ,n,_,h,_,_⟩;exact ⟨σ, Φ,n,h⟩
 | cons o l ih =>
  intro hl a w h
  obtain ⟨hg,hd⟩ := hl o (by simp)
  obtain ⟨_,h2,_⟩ := jRJ (D := []) (D' := []) hY (fun d h => ⟨by simp,hd d h⟩) (fun d h => h) (fun j w s h => by rw [hg] at h;cases h) h
  obtain ⟨v,w',h3⟩ := (h2 (by simp [Region.wanted,hg])).wit
  exact ih (fun o ho => hl o (by simp [ho])) _ _ h3
theorem jcS : ∀ {plan : List Nat} {all : List Oper},plan.length = all.length → ∀ {o : Oper},o ∈ jK5 plan all → ∃ i : Nat,all[i]? = some o ∧ plan[i]? ≠ some 0 := by
 intro plan
 induction plan with
 | nil => intro all _ o h;cases all <;> cases h
 | cons p ps ih =>
  intro all hl o h
  cases all with
  | nil => cases hl
  | cons x ops =>
   have rest : o ∈ jK5 ps ops → ∃ i : Nat,(x :: ops)[i]? = some o ∧ (p :: ps)[i]? ≠ some 0 := fun h => by
    obtain ⟨i,q1,q2⟩ := ih (by simpa using hl) h
    exact ⟨i + 1,by simpa using q1,by simpa using q2⟩
   cases p with
   | zero => exact rest h
   | succ p =>
    have h : o ∈ x :: jK5 ps ops := h
    cases h with
    | head => exact ⟨0,rfl,by simp⟩
    | tail _ h => exact rest h
def jsN (e : Entry) (r : Mem) (β : jKW) (w : World) : Entry := { Entry.of r β [] w with lo := e.lo }
theorem jeH {e r β w r1 β1 Φ1 w1} (m : MemSat r β [] w) (h : Kept (jsN e r β w) r1 β1 Φ1 w1) (m1 : MemSat r1 β1 Φ1 w1) : Old w w1 := by
 refine ⟨h.os,h.tape,h.output,h.size,fun b hb => ?_⟩
 cases hr : r b with
 | some o => rw [m.vis b o hr,m1.vis b o (h.le _ _ hr)]
 | none => exact (h.block b ⟨hb,hr,fun id ch h => by simp [Phi.get] at h⟩).1
def DX (B : Base) (F : Entry → Prop) (N : Nat) (all : List Oper) (plan : List Nat) (aT : Act) (K : Env → Phi → Nat → Prop) (S : Nat → Prop) (a : Act) (w : World) : Prop :=
 ∃ b,TR all plan S aT a b ∧ ∃ (rem : List Nat) (f : Nat) (e : Entry) (r : Mem) (β : jKW) (σ : Env) (Φ : Phi) (n : Nat) (D : List Nat),
  (∀ i,i ∈ rem ↔ plan[i]? = some 6 ∧ ¬ S i) ∧ (∀ d ∈ D,∃ (j : Nat) (oj : Oper),S j ∧ all[j]? = some oj ∧ oj.dst = some d) ∧ (∀ (j : Nat) (oj : Oper) d,S j → all[j]? = some oj → oj.dst = some d → d ∈ D) ∧
  F e ∧ vcE B all [] K f rem σ Φ n ∧ Sat B e N r β σ Φ b w ∧ jML D σ
theorem jY7 {B : Base} {F : Entry → Prop} {e : Entry} (hF : F e) {N : Nat} {all : List Oper} {plan : List Nat} {ro : Option Nat} {K : Env → Phi → Nat → Prop} {Q : Exit → Act → World → Prop} {id : Nat} (ok : RegOk N all) (hlex : Region.lexB .any all.toArray = true) (hpk : jnR all plan = true)
    (hQ : ∀ e r β σ Φ n a w,F e → K σ Φ n → Sat B e N r β σ Φ a w → jN0 σ → Q .normal a w) {r β σ Φ n a0 w00} (h : jcY B all plan σ Φ n K) (s00 : Sat B e N r β σ Φ a0 w00) (hng : jN0 σ) :
    (Code.region id all.toArray true).wpIn (fc ro) 0 B.P Q a0 w00 := by
  obtain ⟨hlen,hpl,h04,h6g⟩ := jeK hpk
  have lx : LexOk .any all.toArray := jTK hlex
  have nosel : ∀ (i : Nat) (o : Oper),all[i]? = some o → ∀ cs b,o.op ≠ .select cs b := by
    intro i o ho cs b
    simp only [Region.lexB,Bool.and_eq_true] at hlex
    exact Region.noSelect_spec hlex.1 i o cs b (by simpa using ho)
  obtain ⟨w0,hw0⟩ : ∃ w0 : World,w0 = { w00 with drawn := w00.drawn + 1 } := ⟨_,rfl⟩
  have hheap : w0.heap = w00.heap := by rw [hw0]
  have s0 : Sat B e N r β σ Φ a0 w0 := by
    refine s00.step s00.agree ⟨fun b o h => by rw [hheap];exact s00.mem.vis b o h,fun id ch h => (s00.mem.chs _ _ h).keep (Mem.le_refl r) (fun b _ => by rw [hheap]) (fun _ _ _ _ _ _ _ h => h),s00.mem.sep,s00.mem.nod⟩ (Mem.le_refl r) ?_
    exact ⟨by rw [hw0],by rw [hw0],by rw [hw0],by rw [hheap];exact Nat.le_refl _,fun b _ h1 h2 => ⟨by rw [hheap],h1,h2⟩,fun _ ch h _ => ⟨rfl,ch,h,rfl⟩⟩
  unfold jcY at h
  cases hyl : Nat.beq B.Y.len 0 with
  | false => rw [hyl] at h;exact h.elim
  | true =>
  rw [hyl] at h
  have hY : YOk B (fun e' => e' = jsN e r β w0) N := YOk.none (jKF hyl)
  obtain ⟨σT,aT,h,hagT,hngT,hszT,hdfT,hTI,hbaseT⟩ := jeL (r := r) (β := β) ok hlen hpl s0.mem all 0 σ a0 (by simp) (by simp) (by simpa using h) s0.agree hng s0.size (fun i o d hi => by omega)
  have getA : ∀ {i : Nat} {o : Oper},all.toArray[i]? = some o → all[i]? = some o := fun h => by simpa using h
  have m0 : MemSat r β [] w0 := jYW s0.mem β
  obtain ⟨e4,he4⟩ : ∃ e4,e4 = jsN e r β w0 := ⟨_,rfl⟩
  have s4 : Sat B e4 N r β (jOU σT) [] aT w0 := by
    refine ⟨(jYU hagT).1,m0,s0.G,?_,?_,hszT⟩
    · rw [he4]
      obtain ⟨k1,k2,k3,k4,k5,k6,k7,k8⟩ := Kept.refl r β [] w0
      exact ⟨k1,k2,k3,k4,k5,k6,k7,k8⟩
    · rw [hdfT,he4]
      obtain ⟨Ds,d1,d2,d3⟩ := s0.defers
      exact ⟨Ds,d1,d2,fun D hD => ⟨(d3 D hD).1,(d3 D hD).2.1,(d3 D hD).2.2.1,fun id ch h => by simp [Phi.get] at h⟩⟩
  have hng4 : jN0 (jOU σT) := jcT hngT
  rw [jhS] at h
  rw [← he4] at hY
  obtain ⟨σc, Φc,nc,hc⟩ := canon (all := all) hY (jK5 plan all) (fun o ho => by
    obtain ⟨i,q1,q2⟩ := jcS hlen ho
    rcases h04 i (jKM q1) with h0 | h6
    · exact absurd h0 q2
    · exact ⟨h6g i o q1 h6,fun d hd => ok.lt o (List.mem_of_getElem? q1) d hd⟩) aT w0 ⟨e4,r, β,_,_,_,rfl,h,s4,hng4.gdIn _⟩
  obtain ⟨l,⟨hEn,hAf⟩,hll⟩ := jYB hc
  obtain ⟨resA, ΦA,nA,hK,hAf⟩ := jSM hAf
  refine jME (I := DX B (fun e' => e' = e4) N all plan aT (fun σ' Φ' _ => jQ7 σ' Φ' (jM0 (jNA plan all) l) Φc [])) (ops := all.toArray) lx B.mixed ?_ ?_ ?_
  · -- one operation
    intro S i o a w hSlt hcl ho hnS hdep hI
    have ho : all[i]? = some o := getA ho
    have hil := jKM ho
    obtain ⟨b,tr,hph⟩ := hI
    have ahead : ∀ (j : Nat) (oj : Oper) (t : Nat),all[j]? = some oj → oj.dst = some t → t ∈ o.looksAt all.toArray → (j < i → S j) ∧ (i < j → ¬ S j) := by
      intro j oj t hoj hdj hm
      refine ⟨fun hji => ?_,fun hij hSj => ?_⟩
      · rcases lx.apart j i oj o (by simpa using hoj) (by simpa using ho) hji with ⟨ed,he,hb,heq⟩ | hap
        · have := hdep ed he hb;rw [heq] at this;exact this
        · exact absurd hm ((Oper.apart_spec hap).1 t hdj)
      · rcases lx.apart i j o oj (by simpa using ho) (by simpa using hoj) hij with ⟨ed,he,hb,heq⟩ | hap
        · have := hcl j oj hSj (by simpa using hoj) ed he hb
          rw [heq] at this;exact hnS this
        · exact (Oper.apart_spec hap).2.2 t hdj hm
    have heq : ∀ t ∈ o.looksAt all.toArray,a.tmps[t]? = b.tmps[t]? := by
      intro t ht
      by_cases hex : ∃ (j : Nat) (oj : Oper),plan[j]? = some 0 ∧ all[j]? = some oj ∧ oj.dst = some t
      · obtain ⟨j,oj,hpj,hoj,hdj⟩ := hex
        obtain ⟨h1,h2⟩ := ahead j oj t hoj hdj ht
        refine tr.slotT j oj t hpj hoj hdj ?_
        rcases Nat.lt_trichotomy j i with hji | hji | hji
        · exact h1 hji
        · subst hji
          rw [ho] at hoj;cases hoj
          obtain ⟨d,_,_,hd,hr,_⟩ := hpl j o ho hpj
          rw [hd] at hdj;cases hdj
          exact absurd ht (hr j o (Nat.le_refl j) ho)
        · obtain ⟨d,_,_,hd,hr,_⟩ := hpl j oj hoj hpj
          rw [hd] at hdj;cases hdj
          exact absurd ht (hr i o (by omega) ho)
      · exact tr.slotN t fun j oj h1 h2 h3 => hex ⟨j,oj,h1,h2,h3⟩
    have hexec : execOp a.eval o = execOp b.eval o := jMB (nosel i o ho) heq
    have hwant : Region.wanted o (yielded all.toArray a.tmps) = Region.wanted o (yielded all.toArray b.tmps) := jOQ heq
    have hszb : b.tmps.size = N → a.tmps.size = N := fun h => by rw [tr.size];exact h
    have hNlt : ∀ d,o.dst = some d → d < N := fun d hd => ok.lt o (List.mem_of_getElem? ho) d hd
    have tr_put : ∀ (v : Value),plan[i]? ≠ some 0 → TR all plan (fun j => S j ∨ j = i) aT (a.put o.dst v) (b.put o.dst v) := by
      intro v hnT
      have other : ∀ {x : Act} {t : Nat},o.dst ≠ some t → (x.put o.dst v).tmps[t]? = x.tmps[t]? := by
        intro x t hne
        cases hd : o.dst with
        | none => rfl
        | some d => exact jN9 (fun h => hne (by rw [hd,h]))
      refine ⟨by rw [put_defers,put_defers];exact tr.defers,by rw [jK0,jK0];exact tr.size,by rw [jK0];exact tr.szT,by rw [put_defers];exact tr.dfT,fun j oj d hpj hoj hdj hSj => ?_,fun t ht => ?_,fun t ht => ?_⟩
      · have hji : j ≠ i := by rintro rfl;exact hnT hpj
        have hne : o.dst ≠ some d := fun h => hji (ok.uniq hoj ho hdj h)
        rw [other hne,other hne]
        exact tr.slotT j oj d hpj hoj hdj (hSj.resolve_right hji)
      · by_cases hd : o.dst = some t
        · have hl : ∀ {x : Act},x.tmps.size = a.tmps.size → (x.put o.dst v).tmps[t]? = if t < a.tmps.size then some v else none := by
            intro x hx
            rw [hd,jP4]
            rw [Array.getElem?_setIfInBounds]
            simp [hx]
          rw [hl rfl,hl tr.size.symm]
        · rw [other hd,other hd];exact tr.slotN t ht
      · have hne : o.dst ≠ some t := ht i o (.inr rfl) hnT ho
        rw [other hne]
        exact tr.base t fun j oj hj => ht j oj (.inl hj)
    have hsz0 : b.tmps.size = N := by rw [tr.szT,hszT]
    have jQR : ∀ {x : Act} {d : Nat} {v : Value},x.tmps.size = N → o.dst = some d → (x.put o.dst v).tmps[d]? = some v := by
      intro x d v hx hd
      rw [hd];exact put_eq (by rw [hx];exact hNlt d hd)
    have other : ∀ {x : Act} {t : Nat} {v : Value},o.dst ≠ some t → (x.put o.dst v).tmps[t]? = x.tmps[t]? := by
      intro x t v hne
      cases hd : o.dst with
      | none => rfl
      | some d => exact jN9 (fun h => hne (by rw [hd,h]))
    unfold wpOpIn
    simp only [List.getElem?_toArray,ho]
    obtain ⟨rem,f,e1,r1, β1, σ1, Φ1,n1,D,hrem,hDs,hDa,hF1,hv1,s1,hgd1⟩ := hph
    rcases h04 i hil with hq | hq
    · -- it looks at what was there
      obtain ⟨d,hfl,hg,hd,hr,hw⟩ := hpl i o ho hq
      · have hOld : Old w0 w := jeH m0 (e := e) (by have := s1.kept;rw [hF1,he4] at this;exact this) s1.mem
        have hw1 : Region.wanted o (yielded all.toArray a.tmps) = true := by simp [Region.wanted,hg]
        rw [if_pos hw1]
        have hbT : ∀ t ∈ o.looksAt all.toArray,b.tmps[t]? = aT.tmps[t]? := by
          intro t ht
          refine tr.base t fun j oj hSj hnT hoj hdj => ?_
          obtain ⟨_,h2⟩ := ahead j oj t hoj hdj ht
          rcases Nat.lt_trichotomy j i with hji | hji | hji
          · have hop : Operand.tmp t ∈ o.op.operands.toList := by
              unfold Oper.looksAt at ht
              rw [hg,List.append_nil,List.mem_filterMap] at ht
              obtain ⟨y,hy,hyt⟩ := ht
              cases y <;> simp at hyt
              subst hyt;exact hy
            exact hw j oj t hji hnT hoj hdj hop
          · subst hji;exact hnS hSj
          · exact h2 hji hSj
        have hexT : execOp b.eval o = execOp aT.eval o := jMB (nosel i o ho) hbT
        obtain ⟨v,hv,hrun⟩ := hTI i o d hil hq ho hd
        refine (OpTo.val v w (R := fun v' w' => v' = v ∧ w' = w) (by rw [hexec,hexT];exact hrun w hOld) ⟨rfl,rfl⟩).wpIn (jbR hfl) ?_
        rintro v' w' ⟨rfl,rfl⟩
        have hnTd : ∀ (j : Nat) (oj : Oper),plan[j]? ≠ some 0 → all[j]? = some oj → oj.dst ≠ some d := fun j oj h1 h2 h3 => by
          have := ok.uniq h2 ho h3 hd
          subst this;exact h1 hq
        refine ⟨b,⟨by rw [put_defers];exact tr.defers,by rw [jK0];exact tr.size,tr.szT,tr.dfT,fun j oj d' hpj hoj hdj hSj => ?_,fun t ht => ?_,fun t ht => ?_⟩,rem,f,e1,r1, β1, σ1, Φ1,n1,d :: D,fun j => ?_,fun d' hd' => ?_,fun j oj d' hSj hoj hdj => ?_,hF1,hv1,s1,hgd1.mono (fun x hx => List.mem_cons_of_mem _ hx)⟩
        · by_cases hji : j = i
          · subst hji
            rw [ho] at hoj;cases hoj
            rw [jQR (hszb hsz0) hdj]
            rw [hd] at hdj;cases hdj
            rw [tr.base d (fun j oj _ h1 h2 => hnTd j oj h1 h2)]
            exact hv.symm
          · have hne : o.dst ≠ some d' := fun h => hji (ok.uniq hoj ho hdj h)
            rw [other hne]
            exact tr.slotT j oj d' hpj hoj hdj (hSj.resolve_right hji)
        · rw [other (ht i o hq ho)];exact tr.slotN t ht
        · exact tr.base t fun j oj hj => ht j oj (.inl hj)
        · rw [hrem j]
          constructor
          · rintro ⟨g1,g2⟩
            refine ⟨g1,fun h => ?_⟩
            rcases h with h | rfl
            · exact g2 h
            · rw [hq] at g1;cases g1
          · rintro ⟨g1,g2⟩;exact ⟨g1,fun h => g2 (.inl h)⟩
        · cases hd' with
          | head => exact ⟨i,o,.inr rfl,ho,hd⟩
          | tail _ hd' => obtain ⟨j,oj,g1,g2⟩ := hDs d' hd';exact ⟨j,oj,.inl g1,g2⟩
        · rcases hSj with h | rfl
          · exact List.mem_cons_of_mem _ (hDa j oj d' h hoj hdj)
          · rw [ho] at hoj;cases hoj
            rw [hd] at hdj;cases hdj
            simp
    · -- one of those whose order is drawn
      have hnT : plan[i]? ≠ some 0 := by rw [hq];simp
      have him : i ∈ rem := (hrem i).2 ⟨hq,hnS⟩
      have hrdy : jT0 all [] rem i = true := by
        refine jRB fun j hj hji hm => ?_
        have := jO2 (all := all) (Q := fun x => S x ∨ x = i) (fun x ox hx hox ed hed hb => by
          rcases hx with hx | rfl
          · exact .inl (hcl x ox hx (by simpa using hox) ed hed hb)
          · rw [ho] at hox;cases hox
            exact .inl (hdep ed hed hb)) _ [i] [] (fun x hx => by simp at hx;exact .inr hx) (fun x hx => by cases hx) j hm
        rcases this with h | h
        · exact ((hrem j).1 hj).2 h
        · exact hji h
      obtain ⟨f',hv⟩ : ∃ f',jOK B all [o] σ1 Φ1 n1 fun σ Φ n => vcE B all [] (fun σ' Φ' _ => jQ7 σ' Φ' (jM0 (jNA plan all) l) Φc []) f' (jWJ i rem) σ Φ n := by
        cases f with
        | zero => exact hv1.elim
        | succ f =>
          cases rem with
          | nil => cases him
          | cons x rr =>
            have := jXV hv1 i him hrdy
            rw [jNN,ho] at this
            exact ⟨f,this⟩
      obtain ⟨hnd,hop1,hop2⟩ := jRJ (all := all) (N := N) (o := o) (rest := []) (D := D) (D' := (match o.dst with | some d => [d] | none => []) ++ D) (K := fun σ Φ n => vcE B all [] (fun σ' Φ' _ => jQ7 σ' Φ' (jM0 (jNA plan all) l) Φc []) f' (jWJ i rem) σ Φ n) hY (fun d hd => ⟨fun hm => by
          obtain ⟨j,oj,g1,g2,g3⟩ := hDs d hm
          have := ok.uniq g2 ho g3 hd
          subst this;exact hnS g1,hNlt d hd⟩) (fun d hd => List.mem_append_right _ hd) (fun j wv s h1 h2 => by
          obtain ⟨o',k1,k2⟩ := jLS h2
          have hlt := ok.before i o ho _ _ h1
          have hSj : S j := (ahead j o' s k1 k2 (jMO h1 h2)).1 hlt
          exact hDa j o' s hSj k1 k2) ⟨e1,r1, β1, σ1, Φ1,n1,hF1,hv,s1,hgd1⟩
      have next : ∀ {v w'},jQL B (fun e' => e' = e4) N all ((match o.dst with | some d => [d] | none => []) ++ D) [] (fun σ Φ n => vcE B all [] (fun σ' Φ' _ => jQ7 σ' Φ' (jM0 (jNA plan all) l) Φc []) f' (jWJ i rem) σ Φ n) (b.put o.dst v) w' → DX B (fun e' => e' = e4) N all plan aT (fun σ' Φ' _ => jQ7 σ' Φ' (jM0 (jNA plan all) l) Φc []) (fun j => S j ∨ j = i) (a.put o.dst v) w' := by
        rintro v w' ⟨e2,r2, β2, σ2, Φ2,n2,q1,q2,q3,q4⟩
        refine ⟨_,tr_put v hnT,jWJ i rem,f',e2,r2, β2, σ2, Φ2,n2,_,fun j => ?_,fun d hd => ?_,fun j oj d hSj hoj hdj => ?_,q1,q2,q3,q4⟩
        · rw [jXH,hrem j]
          constructor
          · rintro ⟨⟨g1,g2⟩,g3⟩;exact ⟨g1,fun h => h.elim g2 g3⟩
          · rintro ⟨g1,g2⟩;exact ⟨⟨g1,fun h => g2 (.inl h)⟩,fun h => g2 (.inr h)⟩
        · rcases List.mem_append.1 hd with hd | hd
          · cases hod : o.dst with
            | none => rw [hod] at hd;cases hd
            | some d' =>
              rw [hod] at hd
              simp at hd;subst hd
              exact ⟨i,o,.inr rfl,ho,hod⟩
          · obtain ⟨j,oj,g1,g2⟩ := hDs d hd;exact ⟨j,oj,.inl g1,g2⟩
        · rcases hSj with h | rfl
          · exact List.mem_append_right _ (hDa j oj d h hoj hdj)
          · rw [ho] at hoj;cases hoj
            rw [hdj];simp
      cases hw : Region.wanted o (yielded all.toArray b.tmps) with
      | true =>
        rw [hwant,hw,if_pos rfl]
        exact (OpTo.same hexec (hop1 hw)).wpIn hnd fun v w' h => next h
      | false =>
        rw [hwant,hw,if_neg (by simp)]
        exact ⟨fun _ _ => trivial,next (hop2 hw)⟩
  · -- the end
    intro S a w hall hI
    obtain ⟨b,tr,rem,f,e1,r1, β1, σ1, Φ1,n1,D,hrem,hDs,hDa,hF1,hv1,s1,hgd1⟩ := hI
    have hall' : ∀ (i : Nat),i < all.length → S i := fun i hi => hall i (by simpa using hi)
    have hab : a = b := by
      have ht : a.tmps = b.tmps := by
        apply Array.ext_getElem?
        intro t
        by_cases hex : ∃ (j : Nat) (oj : Oper),plan[j]? = some 0 ∧ all[j]? = some oj ∧ oj.dst = some t
        · obtain ⟨j,oj,h1,h2,h3⟩ := hex
          exact tr.slotT j oj t h1 h2 h3 (hall' j (jKM h2))
        · exact tr.slotN t fun j oj h1 h2 h3 => hex ⟨j,oj,h1,h2,h3⟩
      cases a;cases b
      have hd := tr.defers
      simp only at ht hd
      subst ht;subst hd;rfl
    subst hab
    have hr0 : rem = [] := by
      cases hr : rem with
      | nil => rfl
      | cons x rr =>
        obtain ⟨g1,g2⟩ := (hrem x).1 (by rw [hr];simp)
        exact absurd (hall' x (by have := jKM g1;omega)) g2
    subst hr0
    cases f with
    | zero => exact hv1.elim
    | succ f =>
      have hv1 : jQ7 σ1 Φ1 (jM0 (jNA plan all) l) Φc [] := hv1
      have hF1 : e1 = e4 := hF1
      subst hF1
      obtain ⟨r2, β2,s2⟩ := jRY s1 hv1 (fun k g sv h => jbS _ _ _ _ _ h) (fun id ch h => by rw [he4] at h;simp [jsN,Entry.of,Phi.get] at h)
      have hkept : Kept (jsN e r β w0) r2 β2 Φc w := by have := s2.kept;rw [he4] at this;exact this
      have hOld : Old w0 w := jeH m0 hkept s2.mem
      have hle : r.le r2 := hkept.le
      have hnd : (jNA plan all).Nodup := jcH fun i j oi oj d q1 q2 q3 q4 => ok.uniq q1 q2 q3 q4
      obtain ⟨vs,hvs,hslot⟩ := jcG _ _ hll hnd s2.agree
      have near := hOld.near s0.mem
      have mOld : MemSat r2 β Φ w := ⟨s2.mem.vis,fun id ch h => (near.mem.chs _ _ h).keep hle (fun _ _ => rfl) (fun _ _ _ _ _ _ _ h => h),fun id ch b q1 q2 => by
        have hb := jNR s0.mem q1 q2
        exact (hkept.block b ⟨hb,s0.mem.sep _ _ _ q1 q2,fun id ch h => by simp [Phi.get] at h⟩).2.1,s0.mem.nod⟩
      obtain ⟨β3,g1,g2,g3,g4,g5⟩ := hAf r2 β β2 w (.tuple vs.toArray) mOld s2.mem (fun id ch j ch' b q1 q2 q3 q4 => by
        have hb := jNR s0.mem q1 q2
        exact (hkept.block b ⟨hb,s0.mem.sep _ _ _ q1 q2,fun id ch h => by simp [Phi.get] at h⟩).2.2 j ch' q3 q4) (.tup hvs.1 hvs.2)
      cases resA with
      | tup lA =>
        have hK : K (jVN σT (jNA plan all) lA) ΦA nA := hK
        obtain ⟨ws,hws,hrA⟩ : ∃ ws : List Value,ws.toArray = vs.toArray ∧ jKS r2 β3 lA ws := by
          generalize hz : Value.tuple vs.toArray = z at g1
          cases g1 with
          | tup hl h => cases hz;exact ⟨_,rfl,hl,h⟩
        obtain rfl : ws = vs := by simpa using congrArg Array.toList hws
        have hlA : lA.length = (jNA plan all).length := by rw [← hrA.1,hvs.1,hll]
        refine hQ e r2 β3 _ ΦA nA a w hF hK ?_ (ja4 hngT _ _)
        have hidF : Hid r β Φ w0 r2 β3 ΦA w := by
          refine ⟨hOld.1,hOld.2.1,hOld.2.2.1,hOld.2.2.2.1,fun b hb q1 q2 => ?_,g3⟩
          obtain ⟨k1,k2,k3⟩ := hkept.block b ⟨hb,q1,fun id ch h => by simp [Phi.get] at h⟩
          refine ⟨k1,k2,fun id ch q3 q4 => ?_⟩
          rcases g5 id ch b q3 q4 with ⟨id',c,c1,c2⟩ | ⟨j,c,c1,c2⟩
          · exact q2 id' c c1 c2
          · exact k3 j c c1 c2
        refine ⟨fun k g sv hg => ?_,g2,s2.G,s0.kept.step hle hidF,?_,s2.size⟩
        · rcases jfT _ _ hlA hg with ⟨i,q1,q2,rfl⟩ | ⟨q1,q2⟩
          · have hi := jKM q1
            have hi' : i < ws.length := by rw [hrA.1];exact hi
            exact ⟨ws[i],by rw [hslot i k q2,List.getElem?_eq_getElem hi'],hrA.2 i sv _ q1 (List.getElem?_eq_getElem hi')⟩
          · obtain rfl := hngT k g sv q2
            have ht : a.tmps[k]? = aT.tmps[k]? := tr.base k fun j oj _ hn hoj hd => by
              rcases h04 j (jKM hoj) with h0 | h6
              · exact hn h0
              · exact q1 (jiH h6 hoj hd)
            obtain ⟨v,p1,p2⟩ := hagT k none sv q2
            exact ⟨v,ht.trans p1,g4 k none sv q2 v (p2.mono hle)⟩
        · have hd : a.defers = a0.defers := by rw [tr.dfT,hdfT]
          rw [hd];exact s0.defers.step hidF
      | _ => exact hK.elim
  · -- the beginning
    intro S hS
    have hw : ({ w00 with drawn := w00.drawn + 1 } : World) = w0 := hw0.symm
    rw [hw]
    refine ⟨aT,⟨hdfT.symm,by rw [hszT,s0.size],rfl,rfl,fun i o d _ _ _ h => absurd h (hS i),fun t ht => ?_,fun t _ => rfl⟩,jYR 0 plan,_,e4,r, β,jOU σT,[],0,[],fun i => ?_,fun d hd => (by cases hd),fun j oj d h => absurd h (hS j),rfl,hEn,s4,hng4.gdIn _⟩
    · exact ((hbaseT t fun j oj _ h1 h2 => ht j oj h1 h2).1).symm
    · rw [jgQ]
      constructor
      · rintro ⟨j,rfl,h2⟩;exact ⟨by simpa using h2,hS _⟩
      · rintro ⟨h1,_⟩;exact ⟨i,by omega,h1⟩
end Go.Vc

namespace Go.Vc
set_option autoImplicit false
theorem jKX {P : Program} {b : Frame} {a : Act} {k : List Item} {cs : List Frame} {w : World} {c : Code} : step P (lone (b.atR a (.code (.scope c) :: k)) cs w) = .next (lone (b.atR a (.code c :: .inScope c :: k)) cs w) :=
 step_lone_go (by simp [stepG,stepG.exec,Frame.atR])
theorem jOG {P : Program} {b : Frame} {a : Act} {k : List Item} {cs : List Frame} {w : World} {c : Code} : step P (lone (b.atR a (.inScope c :: k)) cs w) = .next (lone (b.atR a k) cs w) :=
 step_lone_go (by simp [stepG,stepG.exec,Frame.atR])
def Exit.noGoto' (Q : Exit → Act → World → Prop) : Exit → Act → World → Prop
 | .goto _,_,_ => False
 | e,a,w => Q e a w
theorem jQF {F : Fence} {n : Nat} {P : Program} {Q : Exit → Act → World → Prop} {a : Act} {w : World} {c : Code} (h : c.wpIn F n P (Exit.noGoto' Q) a w) : (Code.scope c).wpIn F n P Q a w := by
 intro b k cs hro hb hr
 have h0 : (lone (b.atR a (.code (.scope c) :: k)) cs w).fenced P F := fenced_calm hb hr rfl
 obtain ⟨e,a₁,w₁,hq,harr⟩ := h b (.inScope c :: k) cs hro hb hr
 cases e with
 | normal => exact ⟨.normal,a₁,w₁,hq,.head h0 jKX (StepsIn.trans harr (.one (fenced_calm hb hr rfl) jOG))⟩
 | exit id =>
  have hx : exitTo id (.inScope c :: k) = exitTo id k := by simp [exitTo]
  exact ⟨.exit id,a₁,w₁,hq,fun k' hk => .head h0 jKX (harr.1 k' (by rw [hx];exact hk)),
   fun hr' hk => let ⟨k₁,h1,h2⟩ := harr.2 hr' (by rw [hx];exact hk);⟨k₁,h1,.head h0 jKX h2⟩⟩
 | goto l => exact hq.elim
 | ret => exact ⟨_,a₁,w₁,hq,.of_steps (.one h0 jKX) harr⟩
 | panic ch => exact ⟨_,a₁,w₁,hq,.of_steps (.one h0 jKX) harr⟩
 | outgrown => exact ⟨_,a₁,w₁,hq,.of_steps (.one h0 jKX) harr⟩
theorem wpIn_loop_ghost {F : Fence} {n : Nat} {P : Program} {Q : Exit → Act → World → Prop} {a : Act} {w : World} {c : Code} (I : Nat → Act → World → Prop) (n₀ : Nat) (h₀ : I n₀ a w)
  (round : ∀ j a w,I j a w → c.wpIn F n P (Exit.then (fun a' w' => ∃ j',j' < j ∧ I j' a' w') Q) a w) : (Code.loop c).wpIn F n P Q a w := by
 intro b k cs hro hb hr
 have key : ∀ j a w,I j a w → ∃ e a' w',Q e a' w' ∧ ArrivesIn (Machine.fenced P F) P (lone (b.atR a (.code c :: .inLoop c :: k)) cs w) b k cs e a' w' := by
  intro j
  induction j using Nat.strongRecOn with
  | _ j ih =>
   intro a w hI
   obtain ⟨e,a₁,w₁,hq,harr⟩ := round j a w hI b (.inLoop c :: k) cs hro hb hr
   cases e with
   | normal =>
    obtain ⟨j',hlt,hI₁⟩ := hq
    obtain ⟨e₂,a₂,w₂,hq₂,harr₂⟩ := ih j' hlt a₁ w₁ hI₁
    exact ⟨e₂,a₂,w₂,hq₂,.of_steps (StepsIn.trans harr (.one (fenced_calm hb hr rfl) stepR_inLoop)) harr₂⟩
   | exit id => exact ⟨_,a₁,w₁,hq,.pass (x := .inLoop c) rfl (fun _ _ => .inl (by simp)) harr⟩
   | goto l => exact ⟨_,a₁,w₁,hq,.pass (x := .inLoop c) rfl (fun _ _ => .inl (by simp)) harr⟩
   | ret => exact ⟨_,a₁,w₁,hq,.pass (x := .inLoop c) rfl (fun _ _ => .inl (by simp)) harr⟩
   | panic ch => exact ⟨_,a₁,w₁,hq,.pass (x := .inLoop c) rfl (fun _ _ => .inl (by simp)) harr⟩
   | outgrown => exact ⟨_,a₁,w₁,hq,.pass (x := .inLoop c) rfl (fun _ _ => .inl (by simp)) harr⟩
 obtain ⟨e,a',w',hq,harr⟩ := key _ a w h₀
 exact ⟨e,a',w',hq,.of_steps (.one (fenced_calm hb hr rfl) stepR_loop) harr⟩
theorem jeV {N : Nat} : ∀ {l : List Nat},jlG N l = true → ∀ p ∈ l,p < N := by
 intro l
 induction l with
 | nil => intro _ p hp;cases hp
 | cons x l ih =>
  intro h p hp
  simp only [jlG,Bool.and_eq_true] at h
  cases hp with
  | head => have := Nat.le_of_ble_eq_true h.1;omega
  | tail _ hp => exact ih h.2 p hp
def Exit.jumps (J : Nat → Act → World → Prop) (Q : Exit → Act → World → Prop) : Exit → Act → World → Prop
 | .goto l,a,w => J l a w
 | e,a,w => Q e a w
theorem jS5 {F : Fence} {n : Nat} {P : Program} {Q : Exit → Act → World → Prop} {a : Act} {w : World} {c : Code} (I : Nat → Nat → Act → World → Prop)
  (first : c.wpIn F n P (Exit.jumps (fun l a w => ∃ k,I l k a w) Q) a w)
  (pass : ∀ l k a w,I l k a w → ∃ rest,findLabel c l = some rest ∧ rest.wpIn F n P (Exit.jumps (fun l' a' w' => ∃ k',k' < k ∧ I l' k' a' w') Q) a w) : (Code.scope c).wpIn F n P Q a w := by
 intro b k cs hro hb hr
 have h0 : (lone (b.atR a (.code (.scope c) :: k)) cs w).fenced P F := fenced_calm hb hr rfl
 have hg : ∀ l rest,findLabel c l = some rest → gotoIn l (.inScope c :: k) = some (.code rest :: .inScope c :: k) := fun l rest h => by simp [gotoIn,h]
 have hx : ∀ id,exitTo id (.inScope c :: k) = exitTo id k := fun id => by simp [exitTo]
 have key : ∀ j l a w rest,I l j a w → findLabel c l = some rest → ∃ e a' w',Q e a' w' ∧ ArrivesIn (Machine.fenced P F) P (lone (b.atR a (.code rest :: .inScope c :: k)) cs w) b k cs e a' w' := by
  intro j
  induction j using Nat.strongRecOn with
  | _ j ih =>
   intro l a w rest hI hf
   obtain ⟨rest',hf',hp⟩ := pass l j a w hI
   rw [hf] at hf'
   cases hf'
   obtain ⟨e,a₁,w₁,hq,harr⟩ := hp b (.inScope c :: k) cs hro hb hr
   cases e with
   | normal => exact ⟨.normal,a₁,w₁,hq,StepsIn.trans harr (.one (fenced_calm hb hr rfl) jOG)⟩
   | exit id =>
    exact ⟨.exit id,a₁,w₁,hq,fun k' hk => harr.1 k' (by rw [hx];exact hk),fun hr' hk => let ⟨k₁,h1,h2⟩ := harr.2 hr' (by rw [hx];exact hk);⟨k₁,h1,h2⟩⟩
   | goto l' =>
    obtain ⟨j',hlt,hI'⟩ := hq
    obtain ⟨rest2,hf2,_⟩ := pass l' j' a₁ w₁ hI'
    obtain ⟨e₂,a₂,w₂,hq₂,harr₂⟩ := ih j' hlt l' a₁ w₁ rest2 hI' hf2
    exact ⟨e₂,a₂,w₂,hq₂,.of_steps (harr.1 _ (hg l' rest2 hf2)) harr₂⟩
   | ret => exact ⟨_,a₁,w₁,hq,harr⟩
   | panic ch => exact ⟨_,a₁,w₁,hq,harr⟩
   | outgrown => exact ⟨_,a₁,w₁,hq,harr⟩
 obtain ⟨e,a₁,w₁,hq,harr⟩ := first b (.inScope c :: k) cs hro hb hr
 cases e with
 | normal => exact ⟨.normal,a₁,w₁,hq,.head h0 jKX (StepsIn.trans harr (.one (fenced_calm hb hr rfl) jOG))⟩
 | exit id =>
  exact ⟨.exit id,a₁,w₁,hq,fun k' hk => .head h0 jKX (harr.1 k' (by rw [hx];exact hk)),
   fun hr' hk => let ⟨k₁,h1,h2⟩ := harr.2 hr' (by rw [hx];exact hk);⟨k₁,h1,.head h0 jKX h2⟩⟩
 | goto l =>
  obtain ⟨j,hI⟩ := hq
  obtain ⟨rest,hf,_⟩ := pass l j a₁ w₁ hI
  obtain ⟨e₂,a₂,w₂,hq₂,harr₂⟩ := key j l a₁ w₁ rest hI hf
  exact ⟨e₂,a₂,w₂,hq₂,.of_steps (.head h0 jKX (harr.1 _ (hg l rest hf))) harr₂⟩
 | ret => exact ⟨_,a₁,w₁,hq,.of_steps (.one h0 jKX) harr⟩
 | panic ch => exact ⟨_,a₁,w₁,hq,.of_steps (.one h0 jKX) harr⟩
 | outgrown => exact ⟨_,a₁,w₁,hq,.of_steps (.one h0 jKX) harr⟩
theorem jU4 {l : Nat} : ∀ {c : Code},jLX l c = false → findLabel c l = none := by
 intro c
 induction c with
 | seq x y ihx ihy =>
  intro h
  simp only [jLX,Bool.or_eq_false_iff] at h
  simp [findLabel,ihx h.1,ihy h.2]
 | label l' =>
  intro h
  simp only [jLX] at h
  have : l' ≠ l := fun q => by rw [q,Nat.beq_refl] at h;cases h
  simp [findLabel,this]
 | _ => intro _;rfl
def QKg (B : Base) (F : Entry → Prop) (N : Nat) (K : KT) (gb nr : Bool) : Exit → Act → World → Prop
 | .normal,a,w => Out B F N K .normal a w
 | .exit i,a,w => (nr = true → i < GT) ∧ Out B F N K (.exit i) a w
 | .ret,a,w => Out B F N K .ret a w
 | .goto l,a,w => gb = true ∧ Out B F N K (.exit (GT + l)) a w
 | _,_,_ => False
theorem QKg.up {B : Base} {F : Entry → Prop} {N : Nat} {K : KT} {gb nr gb' nr' : Bool} (h1 : gb = true → gb' = true) (h2 : nr' = true → nr = true) {ex : Exit} {a : Act} {w : World} (h : QKg B F N K gb nr ex a w) : QKg B F N K gb' nr' ex a w := by
 cases ex with
 | normal => exact h
 | exit i => exact ⟨fun q => h.1 (h2 q),h.2⟩
 | ret => exact h
 | goto l => exact ⟨h1 h.1,h.2⟩
 | panic ch => exact h.elim
 | outgrown => exact h.elim
theorem QKg.of {B : Base} {F : Entry → Prop} {N : Nat} {K : KT} {gb : Bool} {ex : Exit} {a : Act} {w : World} (h : QK B F N K ex a w) : QKg B F N K gb false ex a w := by
 cases ex with
 | normal => exact h
 | exit i => exact ⟨fun q => (by cases q),h⟩
 | ret => exact h
 | goto l => exact h.elim
 | panic ch => exact h.elim
 | outgrown => exact h.elim
theorem QKg.to {B : Base} {F : Entry → Prop} {N : Nat} {K : KT} {gb nr : Bool} (hg : gb = false ∨ ∀ l σ Φ n,¬ K (.exit (GT + l)) σ Φ n) {ex : Exit} {a : Act} {w : World} (h : QKg B F N K gb nr ex a w) : QK B F N K ex a w := by
 cases ex with
 | normal => exact h
 | exit i => exact h.2
 | ret => exact h
 | goto l =>
  rcases hg with hg | hg
  ·rw [hg] at h;cases h.1
  ·obtain ⟨_,e',r', β', σ', Φ',n',_,hk,_⟩ := h
   exact (hg l _ _ _ hk).elim
 | panic ch => exact h.elim
 | outgrown => exact h.elim
abbrev kGL (B : Base) (N : Nat) (L : List Nat) (pl : List (Nat × List Nat)) (c : Code) (F : Entry → Prop) (ro : Option Nat) (m : Option Nat) (rest : Code) : Prop :=
 ∀ (K : KT) (e : Entry) (r : Mem) (β : jKW) (σ : Env) (Φ : Phi) (n : Nat) (a : Act) (w : World),
  F e → vcg B L pl c m K σ Φ n → Sat B e N r β σ Φ a w → jN0 σ → rest.wpIn (fc ro) 0 B.P (QKg B F N K (jKV c) (jKT c)) a w
theorem jjD {B : Base} {N : Nat} {L : List Nat} {pl : List (Nat × List Nat)} : ∀ (c : Code),codeOk N pl c = true → ∀ (F : Entry → Prop),YOk B F N → FamOk F → ∀ (ro : Option Nat),(ro = none ∨ jKT c = true) →
    kGL B N L pl c F ro none c ∧ ∀ l,jLX l c = true → ∃ rest,findLabel c l = some rest ∧ kGL B N L pl c F ro (some l) rest := by
  intro c
  induction c with
  | skip => intro hok F hY hFam ro hro;exact ⟨fun K e r β σ Φ n a w hF h s hng => wpIn_skip ⟨e,r, β, σ, Φ,n,hF,h,s,hng⟩,fun l h => absurd h (by simp [jLX])⟩
  | region id ops draw =>
    intro hok F hY hFam ro hro
    refine ⟨fun K e r β σ Φ n a w hF h s hng => ?_,fun l h => absurd h (by simp [jLX])⟩
    generalize jKV (.region id ops draw) = gb
    generalize jKT (.region id ops draw) = nr
    obtain ⟨ops⟩ := ops
    simp only [codeOk,Bool.and_eq_true] at hok
    obtain ⟨h1,h2,h3,h4⟩ := hok
    have ok := jk3 h1 h2 h3
    simp only [vcg] at h
    obtain ⟨_, σ1, Φ1,r1,h,s1,_,hD1⟩ := jPY h s (vs := []) ⟨rfl,fun i sv v h => by simp at h⟩
    obtain ⟨Φ1,h,s1⟩ := jjW h s1
    have hng1 : jN0 σ1 := fun k g sv hg => by
      cases g with
      | none => rfl
      | some p => obtain ⟨s0,w0⟩ := p;exact (List.not_mem_nil (hD1 [] (hng.gdIn _) k s0 w0 sv hg)).elim
    have fin : ∀ e r β σ Φ n a w,F e → (jMZ L σ fun σ => K .normal σ Φ n) → Sat B e N r β σ Φ a w → QKg B F N K gb nr .normal a w := by
      intro e r β σ Φ n a w hF hk s'
      rw [jYA] at hk
      exact ⟨e,r, β,_, Φ,n,hF,hk,s'.purge L,jN1 L σ⟩
    cases draw with
    | false => exact jeN hY hF ok (K := fun σ Φ n => jMZ L σ fun σ => K .normal σ Φ n) fin h s1 (hng1.gdIn _)
    | true =>
      simp only [Bool.not_true,Bool.false_or,Bool.and_eq_true] at h4
      obtain ⟨h5,h6⟩ := h4
      cases hx : jMV 6 (jK6 pl id) with
      | true =>
        rw [hx] at h h6
        exact jY7 hF ok h5 h6 (K := fun σ Φ n => jMZ L σ fun σ => K .normal σ Φ n) (fun e r β σ Φ n a w h1 h2 h3 _ => fin e r β σ Φ n a w h1 h2 h3) h s1 hng1
      | false =>
      rw [hx] at h h6
      cases hm : jMV 4 (jK6 pl id) with
      | true =>
        rw [hm] at h h6
        have h6 : ((bif isNil (jK6 pl (Nat.add id 3000000)) then jj9 ops (jK6 pl id) else jkB ops (jK6 pl id)) && (jZ6 ops (jK6 pl (Nat.add id 3000000)) && Nat.ble ops.length 64)) = true := h6
        rw [Bool.and_eq_true,Bool.and_eq_true] at h6
        obtain ⟨h6,h7⟩ := h6
        cases hz : isNil (jK6 pl (Nat.add id 3000000)) with
        | true =>
          rw [hz] at h h6
          exact jb2 hF hY ok h5 h6 (tab := []) rfl (.inl rfl) (K := fun σ Φ n => jMZ L σ fun σ => K .normal σ Φ n) fin h s1 hng1
        | false =>
          rw [hz] at h h6
          simp only [cond_false,cond_true] at h
          cases h with
          | dir hd => exact jUJ hF hY ok h5 h6 (tab := jK6 pl (Nat.add id 3000000)) h7.1 (.inr (Nat.le_of_ble_eq_true h7.2)) (K := fun σ Φ n => jMZ L σ fun σ => K .normal σ Φ n) fin hd s1 hng1
          | mk U Fz m he =>
            rw [jLE] at he
            obtain ⟨hd,hk⟩ := he
            have hks : ∀ e',F e' → ∀ id ch,Phi.get e'.Φ id = some ch → ch.kind ≠ 0 → ∃ ch0,Phi.get Φ1 id = some ch0 ∧ ch0.kind = ch.kind := fun e' he' id ch h hk => by
              obtain ⟨ch',q1,q2⟩ := hFam.heads e e' hF he' id ch h hk
              obtain ⟨_,ch0,p1,p2⟩ := s1.kept.keep id ch' q1 (by rw [q2];exact hk)
              exact ⟨ch0,p1,p2.trans q2⟩
            refine jUJ hF hY ok h5 h6 (tab := jK6 pl (Nat.add id 3000000)) h7.1 (.inr (Nat.le_of_ble_eq_true h7.2)) (K := fun σ' Φ' _ => Rnd (jQ7 σ' Φ' (purge L (jjG U σ1)) (jMI Fz Φ1) Φ1)) (fun e2 r2 β2 σ2 Φ2 n2 a2 w2 hF2 hm2 s2 => ?_) hd s1 hng1
            obtain ⟨r3, β3,s3⟩ := jRY s2 hm2.h (jN1 _ _) (hks e2 hF2)
            exact ⟨e2,r3, β3,_,_,m,hF2,hk,s3,jN1 _ _⟩
      | false =>
        rw [hm] at h h6
        exact jbM hF hY ok h5 h6 (K := fun σ Φ n => jMZ L σ fun σ => K .normal σ Φ n) fin h s1 hng1
  | seq x y ihx ihy =>
    intro hok F hY hFam ro hro
    simp only [codeOk,Bool.and_eq_true] at hok
    have hro2 := hro
    simp only [jKT,Bool.and_eq_true] at hro
    obtain ⟨ix,lx⟩ := ihx hok.1 F hY hFam ro (hro.imp id And.left)
    obtain ⟨iy,ly⟩ := ihy hok.2 F hY hFam ro (hro.imp id And.right)
    have gx : jKV x = true → jKV (.seq x y) = true := fun h => by simp [jKV,h]
    have gy : jKV y = true → jKV (.seq x y) = true := fun h => by simp [jKV,h]
    have nx : jKT (.seq x y) = true → jKT x = true := fun h => by simp only [jKT,Bool.and_eq_true] at h;exact h.1
    have ny : jKT (.seq x y) = true → jKT y = true := fun h => by simp only [jKT,Bool.and_eq_true] at h;exact h.2
    have step : ∀ (K : KT) (x' : Code) (a : Act) (w : World),x'.wpIn (fc ro) 0 B.P (QKg B F N (fun e => match e with | .normal => vcg B L pl y none K | e => K e) (jKV x) (jKT x)) a w →
        (Code.seq x' y).wpIn (fc ro) 0 B.P (QKg B F N K (jKV (.seq x y)) (jKT (.seq x y))) a w := fun K x' a w h => by
      refine wpIn_seq (wpIn_mono h fun ex a' w' hq => ?_)
      cases ex with
      | normal =>
        obtain ⟨e',r', β', σ', Φ',n',hF',hk,s',hng'⟩ := hq
        exact wpIn_mono (iy K e' r' β' σ' Φ' n' a' w' hF' hk s' hng') fun ex a'' w'' hq => QKg.up gy ny hq
      | exit i => exact ⟨fun q => hq.1 (nx q),hq.2⟩
      | ret => exact hq
      | goto l => exact ⟨gx hq.1,hq.2⟩
      | panic ch => exact hq.elim
      | outgrown => exact hq.elim
    refine ⟨fun K e r β σ Φ n a w hF h s hng => step K x a w (ix (fun e => match e with | .normal => vcg B L pl y none K | e => K e) e r β σ Φ n a w hF h s hng),fun l hl => ?_⟩
    cases hlx : jLX l x with
    | true =>
      obtain ⟨rest,hf,hr⟩ := lx l hlx
      refine ⟨.seq rest y,by simp [findLabel,hf],fun K e r β σ Φ n a w hF h s hng => ?_⟩
      simp only [vcg,hlx,cond_true] at h
      exact step K rest a w (hr _ e r β σ Φ n a w hF h s hng)
    | false =>
      simp only [jLX,hlx,Bool.false_or] at hl
      obtain ⟨rest,hf,hr⟩ := ly l hl
      refine ⟨rest,by simp [findLabel,jU4 hlx,hf],fun K e r β σ Φ n a w hF h s hng => ?_⟩
      simp only [vcg,hlx,cond_false] at h
      exact wpIn_mono (hr _ e r β σ Φ n a w hF h s hng) fun ex a'' w'' hq => QKg.up gy ny hq
  | cond c x y ihx ihy =>
    intro hok F hY hFam ro hro
    refine ⟨fun K e r β σ Φ n a w hF h s hng => ?_,fun l h => absurd h (by simp [jLX])⟩
    simp only [codeOk,Bool.and_eq_true] at hok
    simp only [jKT,Bool.and_eq_true] at hro
    have gx : jKV x = true → jKV (.cond c x y) = true := fun h => by simp [jKV,h]
    have gy : jKV y = true → jKV (.cond c x y) = true := fun h => by simp [jKV,h]
    have nx : jKT (.cond c x y) = true → jKT x = true := fun h => by simp only [jKT,Bool.and_eq_true] at h;exact h.1
    have ny : jKT (.cond c x y) = true → jKT y = true := fun h => by simp only [jKT,Bool.and_eq_true] at h;exact h.2
    simp only [vcg] at h
    obtain ⟨sv,hk,hr⟩ := jKC h
    cases sv <;> simp only at hk
    rename_i b
    have hv := hr _ r β a _ (jSN _) (Sm.plain s.agree)
    generalize hq : a.eval c = v at hv
    cases hv
    exact wpIn_cond_split hq
      (fun hb => wpIn_mono ((ihx hok.1 F hY hFam ro (hro.imp id And.left)).1 K e r β σ Φ n a w hF (hk.1 hb) s hng) fun ex a' w' hq => QKg.up gx nx hq)
      (fun hb => wpIn_mono ((ihy hok.2 F hY hFam ro (hro.imp id And.right)).1 K e r β σ Φ n a w hF (hk.2 hb) s hng) fun ex a' w' hq => QKg.up gy ny hq)
  | block id c ih =>
    intro hok F hY hFam ro hro
    refine ⟨fun K e r β σ Φ n a w hF h s hng => ?_,fun l h => absurd h (by simp [jLX])⟩
    simp only [codeOk,Bool.and_eq_true] at hok
    have hid : id < GT := Nat.le_of_ble_eq_true hok.1
    simp only [jKT] at hro
    simp only [vcg] at h
    refine wpIn_block (wpIn_mono ((ih hok.2 F hY hFam ro hro).1 _ e r β σ Φ n a w hF h s hng) fun ex a' w' hq => ?_)
    cases ex with
    | normal => exact hq
    | exit i =>
      obtain ⟨hlt,e',r', β', σ', Φ',n',hF',hk,s',hng'⟩ := hq
      simp only [Exit.inBlock]
      by_cases hi : i = id
      · subst hi
        rw [if_pos rfl]
        simp only [Nat.beq_refl,cond_true] at hk
        exact ⟨e',r', β', σ', Φ',n',hF',hk,s',hng'⟩
      · rw [if_neg hi]
        simp only [jKL hi,cond_false] at hk
        exact ⟨fun q => hlt q,e',r', β', σ', Φ',n',hF',hk,s',hng'⟩
    | ret => exact hq
    | goto l =>
      obtain ⟨hg,e',r', β', σ', Φ',n',hF',hk,s',hng'⟩ := hq
      have hi : GT + l ≠ id := by omega
      simp only [jKL hi,cond_false] at hk
      exact ⟨hg,e',r', β', σ', Φ',n',hF',hk,s',hng'⟩
    | panic ch => exact hq.elim
    | outgrown => exact hq.elim
  | loop c ih =>
    intro hok F0 hY hFam ro hro
    refine ⟨fun K e r β σ Φ n a w hF h s hng => ?_,fun l h => absurd h (by simp [jLX])⟩
    simp only [codeOk] at hok
    simp only [jKT] at hro
    simp only [vcg] at h
    cases h with
    | mk U F m C μ a0 h0 he hr =>
      rename_i α
      have head : ∀ x,jN0 (purge L (jjG (U x) σ)) := fun x => jN1 _ _
      have hks : ∀ e',F0 e' → ∀ id ch,Phi.get e'.Φ id = some ch → ch.kind ≠ 0 → ∃ ch0,Phi.get Φ id = some ch0 ∧ ch0.kind = ch.kind := fun e' he' id ch h hk => by
        obtain ⟨ch',q1,q2⟩ := hFam.heads e e' hF he' id ch h hk
        obtain ⟨_,ch0,p1,p2⟩ := s.kept.keep id ch' q1 (by rw [q2];exact hk)
        exact ⟨ch0,p1,p2.trans q2⟩
      refine wpIn_loop_ghost (fun k a' w' => ∃ x,C x ∧ μ x = k ∧ ∃ e' r' β',F0 e' ∧ Sat B e' N r' β' (purge L (jjG (U x) σ)) (jMI (F x) Φ) a' w') (μ a0) ?_ ?_
      · rw [jLE] at he
        obtain ⟨r', β',s'⟩ := jRY s he (head a0) (hks e hF)
        exact ⟨a0,h0,rfl,e,r', β',hF,s'⟩
      · rintro k a' w' ⟨x,hx,rfl,e',r', β',hF',s'⟩
        have hbody := hr x hx
        rw [jLE] at hbody
        refine wpIn_mono ((ih hok F0 hY hFam ro hro).1 _ e' r' β' _ _ m a' w' hF' hbody s' (head x)) fun ex a'' w'' hq => ?_
        cases ex with
        | normal =>
          obtain ⟨e2,r2, β2, σ2, Φ2,n2,hF2,⟨⟨x',hx',hlt,hent⟩⟩,s2,hng2⟩ := hq
          rw [jLE] at hent
          obtain ⟨r3, β3,s3⟩ := jRY s2 hent (head x') (hks e2 hF2)
          exact ⟨μ x',hlt,x',hx',rfl,e2,r3, β3,hF2,s3⟩
        | exit i => exact hq
        | ret => exact hq
        | goto l => exact hq
        | panic ch => exact hq.elim
        | outgrown => exact hq.elim
    | unroll k0 hk0 =>
      refine wpIn_loop_ghost (fun k a' w' => ∃ e' r' β' σ' Φ' n',F0 e' ∧ jmU (fun K σ Φ n => vcg B L pl c none K σ Φ n) K k σ' Φ' n' ∧ Sat B e' N r' β' σ' Φ' a' w' ∧ jN0 σ') k0 ⟨e,r, β, σ, Φ,n,hF,hk0,s,hng⟩ ?_
      rintro k a' w' ⟨e',r', β', σ', Φ',n',hF',hk,s',hng'⟩
      cases k with
      | zero => exact hk.elim
      | succ k =>
        refine wpIn_mono ((ih hok F0 hY hFam ro hro).1 _ e' r' β' _ _ n' a' w' hF' hk s' hng') fun ex a'' w'' hq => ?_
        cases ex with
        | normal =>
          obtain ⟨e2,r2, β2, σ2, Φ2,n2,hF2,hk2,s2,hng2⟩ := hq
          exact ⟨k,Nat.lt_succ_self k,e2,r2, β2, σ2, Φ2,n2,hF2,hk2,s2,hng2⟩
        | exit i => exact hq
        | ret => exact hq
        | goto l => exact hq
        | panic ch => exact hq.elim
        | outgrown => exact hq.elim
    | ug k0 hk0 =>
      have hks : ∀ e',F0 e' → ∀ id ch,Phi.get e'.Φ id = some ch → ch.kind ≠ 0 → jP8 Φ id = true := fun e' he' id ch h hk => by
        obtain ⟨ch',q1,q2⟩ := hFam.heads e e' hF he' id ch h hk
        obtain ⟨_,ch0,p1,p2⟩ := s.kept.keep id ch' q1 (by rw [q2];exact hk)
        exact jSJ.2 ⟨ch0,p1⟩
      refine wpIn_loop_ghost (fun k a' w' => ∃ e' r' β' σ' Φ' n',F0 e' ∧ jj3 (fun K σ Φ n => vcg B L pl c none K σ Φ n) K Φ n k σ' Φ' n' ∧ Sat B e' N r' β' σ' Φ' a' w' ∧ jN0 σ') k0 ⟨e,r, β, σ, Φ,n,hF,hk0,s,hng⟩ ?_
      rintro k a' w' ⟨e',r', β', σ', Φ',n',hF',hk,s',hng'⟩
      cases k with
      | zero => exact hk.elim
      | succ k =>
        refine wpIn_mono ((ih hok F0 hY hFam ro hro).1 _ e' r' β' _ _ n' a' w' hF' hk s' hng') fun ex a'' w'' hq => ?_
        cases ex with
        | normal =>
          obtain ⟨e2,r2, β2, σ2, Φ2,n2,hF2,hk2,s2,hng2⟩ := hq
          obtain ⟨σ3,hk3,o1⟩ := jfC hk2
          obtain ⟨Φ3,hk3,g1,g2⟩ := jZC hk3
          have s3 := s2.less o1 g1 (fun id ch hi hk0 => g2 id (hks e2 hF2 id ch hi hk0))
          have ng3 : jN0 σ3 := fun k g sv hh => by
            obtain ⟨sv0,q1,_⟩ := o1 k g sv hh
            exact hng2 k g sv0 q1
          cases hb : jWG Φ3 Φ with
          | true => rw [hb] at hk3;exact ⟨k,Nat.lt_succ_self k,e2,r2, β2, σ3, Φ3,n,hF2,hk3.h,s3,ng3⟩
          | false => rw [hb] at hk3;exact ⟨k,Nat.lt_succ_self k,e2,r2, β2, σ3, Φ3,n2,hF2,hk3.h,s3,ng3⟩
        | exit i => exact hq
        | ret => exact hq
        | goto l => exact hq
        | panic ch => exact hq.elim
        | outgrown => exact hq.elim
  | exit id =>
    intro hok F hY hFam ro hro
    simp only [codeOk] at hok
    exact ⟨fun K e r β σ Φ n a w hF h s hng => wpIn_exit ⟨fun _ => Nat.le_of_ble_eq_true hok,e,r, β, σ, Φ,n,hF,h,s,hng⟩,fun l h => absurd h (by simp [jLX])⟩
  | ret => intro hok F hY hFam ro hro;exact ⟨fun K e r β σ Φ n a w hF h s hng => wpIn_ret ⟨e,r, β, σ, Φ,n,hF,h,s,hng⟩,fun l h => absurd h (by simp [jLX])⟩
  | scope c ih =>
    intro hok F0 hY hFam ro hro
    refine ⟨fun K e r β σ Φ n a w hF h s hng => ?_,fun l h => absurd h (by simp [jLX])⟩
    simp only [codeOk,Bool.and_eq_true] at hok
    have hro2 := hro
    simp only [jKT] at hro
    simp only [vcg] at h
    obtain ⟨ic,lc⟩ := ih hok.2 F0 hY hFam ro hro
    have hst : ∀ (K' : KT),(∀ l σ Φ n,¬ K' (.exit (GT + l)) σ Φ n) ∨ jKV c = false → (∀ ex σ Φ n,K' ex σ Φ n → K ex σ Φ n) → vcg B L pl c none K' σ Φ n →
        (Code.scope c).wpIn (fc ro) 0 B.P (QKg B F0 N K (jKV (.scope c)) (jKT (.scope c))) a w := fun K' hg hKK h => by
      refine jQF (wpIn_mono (ic K' e r β σ Φ n a w hF h s hng) fun ex a' w' hq => ?_)
      cases ex with
      | normal => obtain ⟨e',r', β', σ', Φ',n',hF',hk,s',hng'⟩ := hq;exact ⟨e',r', β', σ', Φ',n',hF',hKK _ _ _ _ hk,s',hng'⟩
      | exit i => obtain ⟨hlt,e',r', β', σ', Φ',n',hF',hk,s',hng'⟩ := hq;exact ⟨hlt,e',r', β', σ', Φ',n',hF',hKK _ _ _ _ hk,s',hng'⟩
      | ret => obtain ⟨e',r', β', σ', Φ',n',hF',hk,s',hng'⟩ := hq;exact ⟨e',r', β', σ', Φ',n',hF',hKK _ _ _ _ hk,s',hng'⟩
      | goto l =>
        obtain ⟨hb,e',r', β', σ', Φ',n',hF',hk,s',hng'⟩ := hq
        rcases hg with hg | hg
        · exact hg l _ _ _ hk
        · rw [hg] at hb;cases hb
      | panic ch => exact hq.elim
      | outgrown => exact hq.elim
    cases hg : jKV c with
    | false =>
      rw [hg] at h
      exact hst K (.inr hg) (fun _ _ _ _ h => h) h
    | true =>
      rw [hg] at h
      have hnr : jKT c = true := by
        have h1 := hok.1
        rw [hg] at h1
        simpa using h1
      have hle : ∀ l,Nat.ble GT (GT + l) = true := fun l => Nat.ble_eq_true_of_le (by omega)
      cases h with
      | straight h =>
        refine hst _ (.inl fun l σ Φ n hk => ?_) (fun ex σ Φ n hk => ?_) h
        · simp only [hle l,cond_true] at hk
        · cases ex with
          | normal => exact hk
          | ret => exact hk
          | exit i =>
            simp only at hk
            cases hb : Nat.ble GT i with
            | true => rw [hb] at hk;exact hk.elim
            | false => rw [hb] at hk;exact hk
      | mk lab U F m C μ hl h1 hr =>
        rename_i α
        have head : ∀ x,jN0 (purge L (jjG (U x) σ)) := fun x => jN1 _ _
        have hks : ∀ e',F0 e' → ∀ id ch,Phi.get e'.Φ id = some ch → ch.kind ≠ 0 → ∃ ch0,Phi.get Φ id = some ch0 ∧ ch0.kind = ch.kind := fun e' he' id ch h hk => by
          obtain ⟨ch',q1,q2⟩ := hFam.heads e e' hF he' id ch h hk
          obtain ⟨_,ch0,p1,p2⟩ := s.kept.keep id ch' q1 (by rw [q2];exact hk)
          exact ⟨ch0,p1,p2.trans q2⟩
        have hexit : ∀ (J : Nat → Act → World → Prop) (R : Nat → Env → Phi → Prop) (hJ : ∀ l a' w',Out B F0 N (fun e σ' Φ' n' => match e with | .exit i => (bif Nat.ble GT i then R i σ' Φ' else K (.exit i) σ' Φ' n') | e => K e σ' Φ' n') (.exit (GT + l)) a' w' → J l a' w') (ex : Exit) (a' : Act) (w' : World),
            QKg B F0 N (fun e σ' Φ' n' => match e with | .exit i => (bif Nat.ble GT i then R i σ' Φ' else K (.exit i) σ' Φ' n') | e => K e σ' Φ' n') (jKV c) (jKT c) ex a' w' → Exit.jumps J (QKg B F0 N K (jKV (.scope c)) (jKT (.scope c))) ex a' w' := fun J R hJ ex a' w' hq => by
          cases ex with
          | normal => exact hq
          | exit i =>
            obtain ⟨hlt,e',r', β', σ', Φ',n',hF',hk,s',hng'⟩ := hq
            have hlt' := hlt hnr
            have hb : Nat.ble GT i = false := by
              cases hb : Nat.ble GT i with
              | false => rfl
              | true => have := Nat.le_of_ble_eq_true hb;omega
            simp only [hb,cond_false] at hk
            exact ⟨fun _ => hlt',e',r', β', σ', Φ',n',hF',hk,s',hng'⟩
          | ret => exact hq
          | goto l => exact hJ l a' w' hq.2
          | panic ch => exact hq.elim
          | outgrown => exact hq.elim
        refine jS5 (fun l k a' w' => ∃ x,lab x = l ∧ C x ∧ μ x = k ∧ ∃ e' r' β',F0 e' ∧ Sat B e' N r' β' (purge L (jjG (U x) σ)) (jMI (F x) Φ) a' w') ?_ ?_
        · refine wpIn_mono (ic _ e r β σ Φ n a w hF h1 s hng) (hexit _ (fun i σ' Φ' => Rnd (∃ a',GT + lab a' = i ∧ C a' ∧ jNE L (U a') (F a') σ Φ fun σI ΦI => jQ7 σ' Φ' σI ΦI Φ)) fun l a' w' ho => ?_)
          obtain ⟨e2,r2, β2, σ2, Φ2,n2,hF2,hk,s2,hng2⟩ := ho
          simp only [hle l,cond_true] at hk
          obtain ⟨⟨x,hx1,hx2,hent⟩⟩ := hk
          rw [jLE] at hent
          obtain ⟨r3, β3,s3⟩ := jRY s2 hent (head x) (hks e2 hF2)
          exact ⟨μ x,x,by omega,hx2,rfl,e2,r3, β3,hF2,s3⟩
        · rintro l k a' w' ⟨x,rfl,hx,rfl,e',r', β',hF',s'⟩
          obtain ⟨rest,hf,hrest⟩ := lc (lab x) (hl x hx)
          refine ⟨rest,hf,?_⟩
          have hbody := hr x hx
          rw [jLE] at hbody
          refine wpIn_mono (hrest _ e' r' β' _ _ m a' w' hF' hbody s' (head x)) (hexit _ (fun i σ' Φ' => Rnd (∃ a',GT + lab a' = i ∧ C a' ∧ μ a' < μ x ∧ jNE L (U a') (F a') σ Φ fun σI ΦI => jQ7 σ' Φ' σI ΦI Φ)) fun l a'' w'' ho => ?_)
          obtain ⟨e2,r2, β2, σ2, Φ2,n2,hF2,hk,s2,hng2⟩ := ho
          simp only [hle l,cond_true] at hk
          obtain ⟨⟨x',hx1,hx2,hlt,hent⟩⟩ := hk
          rw [jLE] at hent
          obtain ⟨r3, β3,s3⟩ := jRY s2 hent (head x') (hks e2 hF2)
          exact ⟨μ x',hlt,x',by omega,hx2,rfl,e2,r3, β3,hF2,s3⟩
  | rangeFunc g ps x y ihx ihy =>
    intro hok F hY hFam ro hro
    refine ⟨fun K e r β σ Φ n a w hF h s hng => ?_,fun l h => absurd h (by simp [jLX])⟩
    refine wpIn_mono (Q := QK B F N K) ?_ fun ex a' w' hq => QKg.of hq
    obtain ⟨ps⟩ := ps
    simp only [codeOk,Bool.and_eq_true,Bool.not_eq_true',Bool.or_eq_false_iff] at hok
    obtain ⟨⟨hps,⟨hnx,hny⟩,hgx,hgy⟩,hokx,hoky⟩ := hok
    rcases hro with rfl | hro
    · simp only [vcg] at h
      obtain ⟨sv,hk,hr⟩ := jKC h
      cases sv <;> simp only at hk
      rename_i f caps
      cases hl : Nat.beq B.Y.len 0 with
      | false => rw [hl] at hk;exact hk.elim
      | true =>
        rw [hl] at hk
        have hv := hr _ r β a _ (jSN _) (Sm.plain s.agree)
        generalize hq : a.eval g = v at hv
        cases hv with
        | fn h1 h2 =>
          rename_i cs
          refine jb4 (pl := pl) (jKF hl) hFam
            (fun F hY hFam ro K e r β σ Φ n a w hF h s hng => wpIn_mono ((ihx hokx F hY hFam ro (.inr hnx)).1 K e r β σ Φ n a w hF h s hng) fun ex a' w' hq => QKg.to (.inl hgx) hq)
            (fun F hY hFam ro K e r β σ Φ n a w hF h s hng => wpIn_mono ((ihy hoky F hY hFam ro (.inr hny)).1 K e r β σ Φ n a w hF h s hng) fun ex a' w' hq => QKg.to (.inl hgy) hq) (jeV hps) hk s hF hq ⟨h1,h2⟩
    · cases hro
  | label l =>
    intro hok F hY hFam ro hro
    refine ⟨fun K e r β σ Φ n a w hF h s hng => wpIn_label ⟨e,r, β, σ, Φ,n,hF,h,s,hng⟩,fun l' h => ?_⟩
    simp only [jLX] at h
    have hll : l = l' := Nat.eq_of_beq_eq_true h
    refine ⟨.skip,by simp [findLabel,hll],fun K e r β σ Φ n a w hF hv s hng => ?_⟩
    simp only [vcg,h,cond_true] at hv
    exact wpIn_skip ⟨e,r, β, σ, Φ,n,hF,hv,s,hng⟩
  | goto l => intro hok F hY hFam ro hro;exact ⟨fun K e r β σ Φ n a w hF h s hng => wpIn_goto ⟨rfl,e,r, β, σ, Φ,n,hF,h,s,hng⟩,fun l h => absurd h (by simp [jLX])⟩
  | refuse y => intro hok F hY hFam ro hro;exact ⟨fun K e r β σ Φ n a w hF h => h.elim,fun l h => absurd h (by simp [jLX])⟩
theorem jUW {B : Base} {N : Nat} {L : List Nat} {pl : List (Nat × List Nat)} (c : Code) (hok : codeOk N pl c = true) (F : Entry → Prop) (hY : YOk B F N) (hFam : FamOk F) (ro : Option Nat) (hro : ro = none ∨ jKT c = true)
  (K : KT) (hK : ∀ l σ Φ n,¬ K (.exit (GT + l)) σ Φ n) (e : Entry) (r : Mem) (β : jKW) (σ : Env) (Φ : Phi) (n : Nat) (a : Act) (w : World)
  (hF : F e) (h : vc B L pl c K σ Φ n) (s : Sat B e N r β σ Φ a w) (hng : jN0 σ) : c.wpIn (fc ro) 0 B.P (QK B F N K) a w :=
 wpIn_mono ((jjD c hok F hY hFam ro hro).1 K e r β σ Φ n a w hF h s hng) fun ex a' w' hq => QKg.to (.inr hK) hq
end Go.Vc

namespace Go.Vc
set_option autoImplicit false
theorem jNU {α β : Type _} {l : List α} {l' : List β} (h : l.length = l'.length) {i : Nat} {b : β} (hb : l'[i]? = some b) : ∃ a,l[i]? = some a := by
 rcases Nat.lt_or_ge i l.length with hi | hi
 ·exact ⟨l[i],List.getElem?_eq_getElem hi⟩
 ·rw [List.getElem?_eq_none (by omega)] at hb;cases hb
def joS (tmps : Array Value) : ResultVar → Sem Value
 | .tmp t => pure (tmps.getD t undef)
 | .cell ad t => do loadVar t (← asAddr (tmps.getD ad undef))
theorem jR2 {P : Program} {σ Φ} {rs : List ResultVar} : ∀ {K : List SV → Prop},jiL P σ Φ rs K → ∃ l,K l ∧ ∀ r β (a : Act) w,Agree r β σ a.tmps → MemSat r β Φ w →
  ∃ vs,jKS r β l vs ∧ (rs.mapM (joS a.tmps)).run P w = .ok vs w := by
 induction rs with
 | nil => intro K h;exact ⟨[],h,fun r β a w ha m => ⟨[],⟨rfl,fun i sv v h => by simp at h⟩,rfl⟩⟩
 | cons x rs ih =>
  intro K h
  cases x with
  | tmp t =>
   simp only [jiL] at h
   obtain ⟨sv,h,hr⟩ := jKC h
   obtain ⟨l,hk,hl⟩ := ih h
   refine ⟨_,hk,fun r β a w ha m => ?_⟩
   obtain ⟨vs,h1,h2⟩ := hl r β a w ha m
   refine ⟨_,jKS.cons (hr _ r β a _ (jSN _) (Sm.plain ha)) h1,?_⟩
   simp only [List.mapM_cons,joS,Sem.run_bind,Sem.run_pure,Result.andThen_ok,h2]
   rfl
  | cell ad t =>
   simp only [jiL] at h
   obtain ⟨sv,h,hr⟩ := jKC h
   cases sv <;> simp only at h
   rename_i id off
   split at h
   ·rename_i cs hg
    obtain ⟨sv',h,hp⟩ := jL2 h
    obtain ⟨l,hk,hl⟩ := ih h
    refine ⟨_,hk,fun r β a w ha m => ?_⟩
    obtain ⟨vs,h1,h2⟩ := hl r β a w ha m
    have hloc := hr _ r β a _ (jSN _) (Sm.plain ha)
    generalize hq : a.eval (.tmp ad) = v at hloc
    cases hloc with
    | loc hβ =>
     rename_i b
     have hs := m.chs _ _ hg
     cases hs with
     | box hxb hw hlen hc hT =>
      rename_i b' c T
      rw [hβ] at hxb
      obtain rfl : b = b' := by simpa using hxb
      obtain ⟨v,hrel,_,hload⟩ := hp r β c.toList (jVH hlen hc)
      refine ⟨_,jKS.cons hrel h1,?_⟩
      have hl2 := hload w b 0 (fun j u hj => by rw [cell_of_block hw];simpa using hj)
      simp only [Nat.zero_add] at hl2
      have hq' : a.tmps.getD ad undef = .pointer (some ⟨b,off,none⟩) := hq
      simp only [List.mapM_cons,joS,Sem.run_bind,hq',asAddr,Sem.run_pure,Result.andThen_ok,hl2,h2]
   ·exact h.elim
theorem jf6 {r β l vs} (h : jKS r β l vs) : Rel r β (jbG l) (if h : vs.toArray.size = 1 then vs.toArray[0] else .tuple vs.toArray) := by
 obtain ⟨h1,h2⟩ := h
 match l,vs,h1 with
 | [],[],_ => exact .tup (cs := []) rfl (fun i sv v h => by simp at h)
 | [x],[v],_ => exact h2 0 x v rfl rfl
 | x :: y :: l,v :: u :: vs,h1 =>
  rw [dif_neg (by simp)]
  exact .tup h1 h2
theorem jQI {P : Program} {fn : Func} {tmps : Array Value} {vs : List Value} {w : World}
  (h : (fn.results.toList.mapM (joS tmps)).run P w = .ok vs w) :
  (results fn tmps).run P w = .ok (if h : vs.toArray.size = 1 then vs.toArray[0] else .tuple vs.toArray) w := by
 have e : results fn tmps = (do let vs ← fn.results.mapM (joS tmps);pure (if h : vs.size = 1 then vs[0] else .tuple vs)) := by
  unfold results
  congr 2
 rw [e,Sem.run_bind]
 have : (fn.results.mapM (joS tmps)).run P w = .ok vs.toArray w := by
  rw [← Array.toArray_toList (xs := fn.results),List.mapM_toArray,Sem.run_map]
  rw [h]
  rfl
 rw [this]
 rfl
theorem jP1 {args : List SV} : ∀ {i k : Nat} {g sv},Env.get (jVK i args) k = some (g,sv) → g = none ∧ i ≤ k ∧ args[k - i]? = some sv := by
 induction args with
 | nil => intro i k g sv h;simp [jVK,Env.get] at h
 | cons x l ih =>
  intro i k g sv h
  simp only [jVK] at h
  rw [jKO] at h
  cases hb : Nat.beq i k with
  | true =>
   obtain rfl := jKF hb
   rw [hb] at h
   simp only [cond_true,Option.some.injEq,Prod.mk.injEq] at h
   obtain ⟨rfl,rfl⟩ := h
   exact ⟨rfl,Nat.le_refl _,by simp⟩
  | false =>
   rw [hb] at h
   obtain ⟨h1,h2,h3⟩ := ih h
   refine ⟨h1,by omega,?_⟩
   rw [show k - i = (k - (i + 1)) + 1 by omega]
   simpa using h3
theorem jfZ {w : World} {D : Nat} {o : Obj} {b : Nat} (h : b ≠ D) : ({ w with heap := w.heap.setIfInBounds D o } : World).heap[b]? = w.heap[b]? := by
 show (w.heap.setIfInBounds D o)[b]? = _
 exact Array.getElem?_setIfInBounds_ne (Ne.symm h)
theorem jPL {F : Fence} {n : Nat} {P : Program} {fn : Func} {tmps : Array Value} {R : Ending → World → Prop} {r : Mem} {β : jKW} {Φ : Phi} {lo : Nat → Prop} :
  ∀ (Ds : List Nat) (w : World),Ds.Nodup → (∀ D ∈ Ds,lo D ∧ w.heap[D]? = some (.deferred (some [])) ∧ r D = none ∧ ∀ id ch,Phi.get Φ id = some ch → ¬ ch.hb (β id) D) → MemSat r β Φ w →
  (∀ w',MemSat r β Φ w' → w'.os = w.os → w'.tape = w.tape → w'.output = w.output → w'.heap.size = w.heap.size → (∀ b,¬ lo b → w'.heap[b]? = w.heap[b]?) → ∃ v,(results fn tmps).run P w' = .ok v w' ∧ R (.returned v) w') →
  LeavesInM F n P fn tmps R (Ds.map (fun D => { target := .collected D,args := #[] })) .returning w := by
 intro Ds
 induction Ds with
 | nil => intro w _ _ m h;exact h w m rfl rfl rfl rfl (fun _ _ => rfl)
 | cons D Ds ih =>
  intro w hnd hD m h
  obtain ⟨g1,g2,g3,g4⟩ := hD D (by simp)
  have hnd' := List.nodup_cons.1 hnd
  refine ⟨by simp,.inl ⟨D,_,rfl,run_takeDeferred g2,?_⟩⟩
  have get : ∀ b,b ≠ D → (w.putObj D (.deferred none)).heap[b]? = w.heap[b]? := fun b hb => jfZ hb
  refine ih _ hnd'.2 (fun D' hD' => ?_) ⟨fun b o hb => ?_,fun id ch hi => ?_,m.sep,m.nod⟩ (fun w' m' e1 e2 e3 e4 e5 => h w' m' e1 e2 e3 (e4.trans (by simp [World.putObj])) (fun b hb => (e5 b hb).trans (get b (fun he => hb (he ▸ g1)))))
  ·obtain ⟨k1,k2,k3,k4⟩ := hD D' (by simp [hD'])
   exact ⟨k1,(get D' (fun he => hnd'.1 (he ▸ hD'))).trans k2,k3,k4⟩
  ·rw [get b (fun he => by rw [he,g3] at hb;cases hb)];exact m.vis b o hb
  ·exact (m.chs _ _ hi).keep (Mem.le_refl r) (fun b hb => get b (fun he => g4 id ch hi (he ▸ hb))) (fun _ _ _ _ _ _ _ h => h)
theorem jgB {B : Base} {f : FuncId} {fn : Func} {c : Code} {args : List SV} {Φ0 Φ' : Phi} {res : SV} {N : Nat} (L : List Nat) (pl : List (Nat × List Nat)) (n : Nat)
    (hf : B.P.funcs[f]? = some fn) (hb : fn.body = some c) (hN : fn.ntmps = N) (hok : (Nat.ble args.length N && codeOk N pl c) = true)
    (h : vc B L pl c (jjZ B.P fn.results.toList res Φ0 Φ') (jVK 0 args) Φ0 n) (hY : B.Y.len = 0) : Ct B f args Φ0 fun sv Φ1 => sv = res ∧ Φ1 = Φ' := by
  simp only [Bool.and_eq_true] at hok
  obtain ⟨hlen,hok⟩ := hok
  have hlen := Nat.le_of_ble_eq_true hlen
  intro r β w vs hG m hl
  refine jM8 (ro := none) (n := 0) |>.1 ?_
  refine callsIn_of_wp_marks hf hb trivial ?_ rfl
  have hvl : vs.length = args.length := hl.1
  have hsz : vs.toArray.size = args.length := by simpa using hvl
  rw [hN]
  have hget : ∀ (k : Nat) (v : Value),vs[k]? = some v → (vs.toArray ++ Array.replicate (N - vs.toArray.size) undef)[k]? = some v := by
    intro k v hk
    have : k < vs.length := jKM hk
    rw [Array.getElem?_append_left (by simpa using this)]
    simpa using hk
  have s : Sat B (Entry.of r β Φ0 w) N r β (jVK 0 args) Φ0 { tmps := vs.toArray ++ Array.replicate (N - vs.toArray.size) undef,defers := [] } w := by
    refine ⟨fun k g sv hg => ?_,m,hG,Kept.refl ..,⟨[],rfl,List.nodup_nil,fun D hD => (List.not_mem_nil hD).elim⟩,by simp;omega⟩
    obtain ⟨rfl,_,hk⟩ := jP1 hg
    have hk : args[k]? = some sv := by simpa using hk
    obtain ⟨v,hv⟩ := jNU hvl hk
    exact ⟨v,hget k v hv,hl.2 k sv v hk hv⟩
  have hng : jN0 (jVK 0 args) := fun k g sv hg => (jP1 hg).1
  refine wpIn_mono (jUW c hok (fun e => e = Entry.of r β Φ0 w) (YOk.none hY) (FamOk.one (fun _ h => h)) none (.inl rfl) _ (fun l σ Φ n h => h) _ r β (jVK 0 args) Φ0 n _ w rfl h s hng) fun ex a' w' hq => ?_
  have fin : ∀ {ex},(∀ i,ex ≠ Ex.exit i) → Out B (fun e => e = Entry.of r β Φ0 w) N (jjZ B.P fn.results.toList res Φ0 Φ') ex a' w' →
      LeavesInM (fc none) 0 B.P fn a'.tmps (fun e w' => ∃ v sv r' β' Φ1,e = .returned v ∧ (sv = res ∧ Φ1 = Φ') ∧ Rel r' β' sv v ∧ MemSat r' β' Φ1 w' ∧ r.le r' ∧ Hid r β Φ0 w r' β' Φ1 w') a'.defers .returning w' := by
    intro ex hex ⟨e',r', β', σ', Φ1,n',he',hk,s',_⟩
    subst he'
    have hhid := s'.kept.hid
    have hk : jiL B.P σ' Φ1 fn.results.toList fun l => Fin (jQ7 [(0,none,jbG l)] Φ1 [(0,none,res)] Φ' Φ0) := by
      cases ex with
      | exit i => exact (hex i rfl).elim
      | normal => exact hk
      | ret => exact hk
    obtain ⟨l,hfin,hl'⟩ := jR2 hk
    obtain ⟨Ds,hds,hnd,hD⟩ := s'.defers
    rw [hds]
    refine jPL (r := r') (β := β') (Φ := Φ1) (lo := fun D => w.heap.size ≤ D) Ds w' hnd hD s'.mem fun w2 m2 e1 e2 e3 e4 e5 => ?_
    obtain ⟨us,hus,hrun⟩ := hl' r' β' a' w2 s'.agree m2
    obtain ⟨r2, β2,hle,m3,hE,hH,hK⟩ := jb0 hfin.h m2
    refine ⟨_,jQI hrun,_,res,r2, β2, Φ',rfl,⟨rfl,rfl⟩,?_,m3,Mem.le_trans s'.kept.le hle,?_⟩
    · obtain ⟨sv,q1,q2⟩ := hE 0 none res rfl
      cases q1
      exact q2 _ (jf6 hus)
    · refine ⟨e1.trans hhid.os,e2.trans hhid.tape,e3.trans hhid.output,by rw [e4];exact hhid.size,fun b hb' h1 h2 => ?_,fun id ch hi hk => ?_⟩
      · obtain ⟨q1,q2,q3⟩ := hhid.block b hb' h1 h2
        exact ⟨(e5 b (by omega)).trans q1,hH b q2 q3⟩
      · obtain ⟨q1,_⟩ := hhid.keep id ch hi hk
        obtain ⟨p1,p2⟩ := hK id ch hi hk
        exact ⟨p1.trans q1,p2⟩
  cases ex with
  | normal => exact fin (by intro i h;cases h) hq
  | ret => exact fin (by intro i h;cases h) hq
  | exit i =>
    obtain ⟨_,r', β', σ', Φ1,n',_,hk,_⟩ := hq
    exact hk.elim
  | goto l => exact hq.elim
  | panic ch => exact hq.elim
  | outgrown => exact hq.elim
theorem jlL {B : Base} {f : FuncId} {fn : Func} {c : Code} {args : List SV} {Φ0 : Phi} {N : Nat} {Kr : SV → Phi → Nat → Prop} (L : List Nat) (pl : List (Nat × List Nat)) (n : Nat)
    (hf : B.P.funcs[f]? = some fn) (hb : fn.body = some c) (hN : fn.ntmps = N) (hok : (Nat.ble args.length N && codeOk N pl c) = true)
    (h : vc B L pl c (jyU B.P fn.results.toList Kr) (jVK 0 args) Φ0 n) (hY : B.Y.len = 0) : Ct B f args Φ0 fun sv Φ1 => ∃ n',Kr sv Φ1 n' := by
  simp only [Bool.and_eq_true] at hok
  obtain ⟨hlen,hok⟩ := hok
  have hlen := Nat.le_of_ble_eq_true hlen
  intro r β w vs hG m hl
  refine jM8 (ro := none) (n := 0) |>.1 ?_
  refine callsIn_of_wp_marks hf hb trivial ?_ rfl
  have hvl : vs.length = args.length := hl.1
  have hsz : vs.toArray.size = args.length := by simpa using hvl
  rw [hN]
  have hget : ∀ (k : Nat) (v : Value),vs[k]? = some v → (vs.toArray ++ Array.replicate (N - vs.toArray.size) undef)[k]? = some v := by
    intro k v hk
    have : k < vs.length := jKM hk
    rw [Array.getElem?_append_left (by simpa using this)]
    simpa using hk
  have s : Sat B (Entry.of r β Φ0 w) N r β (jVK 0 args) Φ0 { tmps := vs.toArray ++ Array.replicate (N - vs.toArray.size) undef,defers := [] } w := by
    refine ⟨fun k g sv hg => ?_,m,hG,Kept.refl ..,⟨[],rfl,List.nodup_nil,fun D hD => (List.not_mem_nil hD).elim⟩,by simp;omega⟩
    obtain ⟨rfl,_,hk⟩ := jP1 hg
    have hk : args[k]? = some sv := by simpa using hk
    obtain ⟨v,hv⟩ := jNU hvl hk
    exact ⟨v,hget k v hv,hl.2 k sv v hk hv⟩
  have hng : jN0 (jVK 0 args) := fun k g sv hg => (jP1 hg).1
  refine wpIn_mono (jUW c hok (fun e => e = Entry.of r β Φ0 w) (YOk.none hY) (FamOk.one (fun _ h => h)) none (.inl rfl) _ (fun l σ Φ n h => h) _ r β (jVK 0 args) Φ0 n _ w rfl h s hng) fun ex a' w' hq => ?_
  have fin : ∀ {ex},(∀ i,ex ≠ Ex.exit i) → Out B (fun e => e = Entry.of r β Φ0 w) N (jyU B.P fn.results.toList Kr) ex a' w' →
      LeavesInM (fc none) 0 B.P fn a'.tmps (fun e w' => ∃ v sv r' β' Φ1,e = .returned v ∧ (∃ n',Kr sv Φ1 n') ∧ Rel r' β' sv v ∧ MemSat r' β' Φ1 w' ∧ r.le r' ∧ Hid r β Φ0 w r' β' Φ1 w') a'.defers .returning w' := by
    intro ex hex ⟨e',r', β', σ', Φ1,n',he',hk,s',_⟩
    subst he'
    have hhid := s'.kept.hid
    have hk : jiL B.P σ' Φ1 fn.results.toList fun l => kF5 l fun sv => Kr sv Φ1 n' := by
      cases ex with
      | exit i => exact (hex i rfl).elim
      | normal => exact hk
      | ret => exact hk
    obtain ⟨l,hfin,hl'⟩ := jR2 hk
    rw [jnC] at hfin
    obtain ⟨Ds,hds,hnd,hD⟩ := s'.defers
    rw [hds]
    refine jPL (r := r') (β := β') (Φ := Φ1) (lo := fun D => w.heap.size ≤ D) Ds w' hnd hD s'.mem fun w2 m2 e1 e2 e3 e4 e5 => ?_
    obtain ⟨us,hus,hrun⟩ := hl' r' β' a' w2 s'.agree m2
    refine ⟨_,jQI hrun,_,jbG l,r', β', Φ1,rfl,⟨n',hfin⟩,jf6 hus,m2,s'.kept.le,?_⟩
    refine ⟨e1.trans hhid.os,e2.trans hhid.tape,e3.trans hhid.output,by rw [e4];exact hhid.size,fun b hb' h1 h2 => ?_,fun id ch hi hk => hhid.keep id ch hi hk⟩
    obtain ⟨q1,q2,q3⟩ := hhid.block b hb' h1 h2
    exact ⟨(e5 b (by omega)).trans q1,q2,q3⟩
  cases ex with
  | normal => exact fin (by intro i h;cases h) hq
  | ret => exact fin (by intro i h;cases h) hq
  | exit i =>
    obtain ⟨_,r', β', σ', Φ1,n',_,hk,_⟩ := hq
    exact hk.elim
  | goto l => exact hq.elim
  | panic ch => exact hq.elim
  | outgrown => exact hq.elim
class Inl (B : Base) (f : FuncId) where
 fn : Func
 c : Code
 N : Nat
 L : List Nat
 pl : List (Nat × List Nat)
 call : ∀ (vs : Array Value) (w : World),(callFunc f vs).run B.P w = .ok (.enter f vs) w
 hf : B.P.funcs[f]? = some fn
 hb : fn.body = some c
 hN : fn.ntmps = N
 hok : codeOk N pl c = true
 hY : B.Y.len = 0
@[reducible] def Inl.make {B : Base} {f : FuncId} {fn : Func} {c : Code} {N : Nat} (L : List Nat) (pl : List (Nat × List Nat)) (call : ∀ (vs : Array Value) (w : World),(callFunc f vs).run B.P w = .ok (.enter f vs) w)
  (hf : B.P.funcs[f]? = some fn) (hb : fn.body = some c) (hN : fn.ntmps = N) (hok : codeOk N pl c = true) (hY : B.Y.len = 0 := by rfl) : Inl B f := ⟨fn,c,N,L,pl,call,hf,hb,hN,hok,hY⟩
theorem CallS.inl {B : Base} {f : FuncId} {args : List SV} {σ : Env} {Φ : Phi} {n : Nat} {K : EK} [I : Inl B f] (hl : Nat.ble args.length I.N = true)
  (h : vc B I.L I.pl I.c (jyU B.P I.fn.results.toList fun sv Φ' n' => gcP (fun i => !(sv.okIds (fun j => !Nat.beq j i))) Φ Φ' Φ' fun Φ'' => jS0 Φ σ fun σ' => bif jWG Φ'' Φ then K sv σ' Φ'' n else K sv σ' Φ'' n') (jVK 0 args) Φ n) : CallS B f args σ Φ n K :=
 .i I.call (jlL I.L I.pl n I.hf I.hb I.hN (by rw [hl,I.hok];rfl) h I.hY)
theorem Fn.intro {B : Base} {f : FuncId} {fn : Func} {c : Code} {args : List SV} {pre : Prop} {res : SV} {N : Nat} (L : List Nat) (pl : List (Nat × List Nat))
  (call : ∀ (vs : Array Value) (w : World),(callFunc f vs).run B.P w = .ok (.enter f vs) w)
  (hf : B.P.funcs[f]? = some fn) (hb : fn.body = some c) (hN : fn.ntmps = N) (hok : (Nat.ble args.length N && codeOk N pl c) = true)
  (h : pre → vc B L pl c (jjZ B.P fn.results.toList res [] []) (jVK 0 args) [] 0) (hY : B.Y.len = 0 := by rfl) : Fn B f args pre res :=
 ⟨call,fun hp => jgB L pl 0 hf hb hN hok (h hp) hY⟩
theorem FnM.intro {B : Base} {f : FuncId} {fn : Func} {c : Code} {args : List SV} {Φ : Phi} {pre : Prop} {res : SV} {Φ' : Phi} {N : Nat} (L : List Nat) (pl : List (Nat × List Nat)) (n : Nat)
  (call : ∀ (vs : Array Value) (w : World),(callFunc f vs).run B.P w = .ok (.enter f vs) w)
  (hf : B.P.funcs[f]? = some fn) (hb : fn.body = some c) (hN : fn.ntmps = N) (hok : (Nat.ble args.length N && codeOk N pl c) = true)
  (h : pre → vc B L pl c (jjZ B.P fn.results.toList res Φ Φ') (jVK 0 args) Φ n) (hY : B.Y.len = 0 := by rfl) : FnM B f args Φ pre res Φ' :=
 ⟨call,fun hp => jgB L pl n hf hb hN hok (h hp) hY⟩
theorem CallS.norm {B : Base} {f : FuncId} {args : List SV} {σ : Env} {Φ : Phi} {n : Nat} {K : EK} {args' : List SV} {σ' : Env} {Φ' : Phi} {n' : Nat} (h : (args, σ, Φ,n) = (args', σ', Φ',n')) [I : Inl B f] (hl : Nat.ble args'.length I.N = true)
  (k : vc B I.L I.pl I.c (jyU B.P I.fn.results.toList fun sv Φ2 n2 => gcP (fun i => !(sv.okIds (fun j => !Nat.beq j i))) Φ' Φ2 Φ2 fun Φ'' => jS0 Φ' σ' fun σ2 => bif jWG Φ'' Φ' then K sv σ2 Φ'' n' else K sv σ2 Φ'' n2) (jVK 0 args') Φ' n') : CallS B f args σ Φ n K := by
 cases h;exact CallS.inl hl k
theorem jKE {p : Prop} (h : true = false) : p := nomatch h
theorem jKD {p : Prop} (h : false = true) : p := nomatch h
theorem Fn.lift {B : Base} {f : FuncId} {args : List SV} {pre : Prop} {res : SV}
  (call : ∀ (vs : Array Value) (w : World),(callFunc f vs).run B.P w = .ok (.enter f vs) w)
  (h : pre → ∀ (r : Mem) (β : jKW) (w : World) (vs : List Value),B.G r → MemSat r β [] w → jKS r β args vs →
   ∃ v,Calls B.P f vs.toArray w (fun e w' => e = .returned v ∧ w' = w) ∧ Rel r β res v) : Fn B f args pre res := by
 refine ⟨call,fun hp r β w vs hG m hl => ?_⟩
 obtain ⟨v,hc,hr⟩ := h hp r β w vs hG m hl
 refine hc.mono fun e w' hh => ?_
 obtain ⟨rfl,rfl⟩ := hh
 exact ⟨v,res,r, β,[],rfl,⟨rfl,rfl⟩,hr,m,Mem.le_refl r,Hid.refl ..⟩
theorem jKS.str1 {r : Mem} {β : jKW} {s : List UInt8} {vs : List Value} (h : jKS r β [.str s] vs) : vs = [.string ⟨s.toArray⟩] ∧ s.length ≤ 9223372036854775807 := by
 obtain ⟨hl,h⟩ := h
 match vs,hl with
 | [a],_ =>
  have h0 := h 0 _ a rfl rfl
  cases h0 with
  | str k => exact ⟨rfl,k⟩
theorem jKS.str2 {r : Mem} {β : jKW} {s t : List UInt8} {vs : List Value} (h : jKS r β [.str s,.str t] vs) :
  vs = [.string ⟨s.toArray⟩,.string ⟨t.toArray⟩] ∧ s.length ≤ 9223372036854775807 ∧ t.length ≤ 9223372036854775807 := by
 obtain ⟨hl,h⟩ := h
 match vs,hl with
 | [a,b],_ =>
  have h0 := h 0 _ a rfl rfl
  have h1 := h 1 _ b rfl rfl
  cases h0 with
  | str k => cases h1 with
   | str k1 => exact ⟨rfl,k,k1⟩
end Go.Vc

namespace Go.Vc
set_option autoImplicit false
structure ItFin (len : Nat) (Φ : Phi) : Prop where
 h : (∃ i,Phi.get Φ GID = some (.gh (some i)) ∧ i = len) ∨ Phi.get Φ GID = some (.gh none)
def jjX (len : Nat) (Φ : Phi) : Prop :=
 match Phi.get Φ GID with
 | some (.gh none) => True
 | some (.gh (some i)) => Ob (i = len)
 | _ => False
theorem jhY {len : Nat} {Φ : Phi} (h : jjX len Φ) : ItFin len Φ := by
 unfold jjX at h
 split at h
 ·rename_i h1;exact ⟨.inr h1⟩
 ·rename_i i h1;exact ⟨.inl ⟨i,h1,h.h⟩⟩
 ·exact h.elim
def kGR (P : Program) (rs : List ResultVar) (len : Nat) : KT := fun e σ Φ _ =>
 match e with
 | .exit _ => False
 | _ => jiL P σ Φ rs fun _ => jjX len Φ
theorem je7 {n : Nat} {Φ : Phi} (h : jV1 n Φ = true) (k : Nat) (ch) (hg : Phi.get Φ k = some ch) : jZN n ch = true := by
 induction Φ with
 | nil => simp [Phi.get] at hg
 | cons x r ih =>
  obtain ⟨k0,c⟩ := x
  simp only [jV1,Bool.and_eq_true] at h
  rw [jKJ] at hg
  cases hb : Nat.beq k0 k with
  | true => rw [hb] at hg;simp at hg;subst hg;exact h.1
  | false => rw [hb] at hg;exact ih h.2 hg
def kGF (J : Nat → (Nat → Prop) → World → Prop) (Jx : (Nat → Prop) → World → Prop) : Option Nat → (Nat → Prop) → World → Prop
 | some i,S,w => J i S w
 | none,S,w => Jx S w
structure ItE (r0 : Mem) (J : Nat → (Nat → Prop) → World → Prop) (Jx : (Nat → Prop) → World → Prop) (e : Entry) : Prop where
 r : e.r = r0
 lo : e.lo = fun D => ¬ e.S D
 h : ∃ oi,e.Φ = [(GID,.gh oi)] ∧ e.β GID = ghV oi ∧ kGF J Jx oi e.S e.w
section
variable {B : Base} {len : Nat} {at_ : Nat → List SV} {l : Nat} {r0 : Mem} {J : Nat → (Nat → Prop) → World → Prop} {Jx : (Nat → Prop) → World → Prop}
 (hJ : ∀ i S w,J i S w → (∀ b,S b → b < w.heap.size ∧ r0 b = none) ∧ ∀ w',Oth r0 S w w' → J i S w')
 (hJx : ∀ S w,Jx S w → (∀ b,S b → b < w.heap.size ∧ r0 b = none) ∧ ∀ w',Oth r0 S w w' → Jx S w')
include hJ hJx
theorem ItE.fam : FamOk (ItE r0 J Jx) := by
 refine ⟨fun e he D hD => ?_,fun e e' he he' id ch h hk => ?_⟩
 ·rw [he.lo]
  intro hS
  obtain ⟨oi,_,_,h3⟩ := he.h
  have : D < e.w.heap.size := by
   cases oi with
   | some i => exact ((hJ _ _ _ h3).1 D hS).1
   | none => exact ((hJx _ _ h3).1 D hS).1
  omega
 ·obtain ⟨oi,h1,_,_⟩ := he.h
  obtain ⟨oi',h1',_,_⟩ := he'.h
  rw [h1'] at h
  rw [h1]
  rw [jKJ] at h
  cases hb : Nat.beq GID id with
  | true => rw [hb] at h;simp at h;subst h;exact ⟨.gh oi,by rw [jKJ,hb];rfl,rfl⟩
  | false => rw [hb] at h;simp [Phi.get] at h
theorem ItE.now {B' : Base} {e N r β σ Φ a w} (he : ItE r0 J Jx e) (s : Sat B' e N r β σ Φ a w) {oi} (hg : Phi.get Φ GID = some (.gh oi)) {w2 : World} (hw : Oth r0 e.S w w2) :
  kGF J Jx oi e.S w2 := by
 obtain ⟨oi',h1,h2,h3⟩ := he.h
 have hk := (s.kept.keep GID (.gh oi') (by rw [h1];rfl) (by simp [Chunk.kind])).1
 have hc := s.mem.chs GID _ hg
 have : oi = oi' := by
  cases hc with
  | gh hx => rw [hk,h2] at hx;exact (joP hx).symm
 subst this
 have ho : Oth r0 e.S e.w w2 := ⟨hw.os.trans s.kept.os,hw.tape.trans s.kept.tape,hw.output.trans s.kept.output,Nat.le_trans s.kept.size hw.size,fun b hb => (hw.same b hb).trans (s.kept.block b hb).1,hw.old⟩
 cases oi with
 | some i => exact (hJ _ _ _ h3).2 _ ho
 | none => exact (hJx _ _ h3).2 _ ho
theorem ItE.yok (hY : ∀ i S w r β vs,J i S w → i < len → r0.le r → (∀ b o,r b = some o → w.heap[b]? = some o) → (∀ b,S b → r b = none) → jKS r β (at_ i) vs → jOT B.P l vs w fun e w' => ∃ b S',e = .returned (.bool b) ∧ Own S w w' ∧ (∀ x,S' x → S x ∨ w.heap.size ≤ x) ∧ (bif b then J (i + 1) S' w' else Jx S' w')) (N : Nat) :
  YOk (B.withY ⟨l,len,at_⟩) (ItE r0 J Jx) N := by
 intro e r β σ Φ a w i vs hF s hg hi hvs hfσ hfΦ
 have hr0 : r0.le r := by rw [← hF.r];exact s.kept.le
 have hnow := hF.now hJ hJx s hg (w2 := w) ⟨rfl,rfl,rfl,Nat.le_refl _,fun _ _ => rfl,fun b o h => s.mem.vis b o (hr0 b o h)⟩
 refine (hY i e.S w r β vs hnow hi hr0 s.mem.vis (fun b hb => (s.kept.block b hb).2.1) hvs).mono ?_
 rintro en w' ⟨b,S',rfl,hown,hS',hb⟩
 obtain ⟨oi,hoi⟩ : ∃ oi : Option Nat,oi = bif b then some (i + 1) else none := ⟨_,rfl⟩
 obtain ⟨β',hβ⟩ : ∃ β' : jKW, β' = fun id => bif Nat.beq GID id then ghV oi else β id := ⟨_,rfl⟩
 have hin : kGF J Jx oi S' w' := by
  cases b <;> subst hoi <;> exact hb
 have hlt : ∀ x,S' x → x < w'.heap.size ∧ r0 x = none := by
  intro x hx
  cases oi with
  | some i => exact (hJ _ _ _ hin).1 x hx
  | none => exact (hJx _ _ hin).1 x hx
 have hβg : β' GID = ghV oi := by rw [hβ];simp
 have hβo : ∀ id,(!Nat.beq id GID) = true → β' id = β id := by
  intro id hid
  have : Nat.beq GID id = false := by
   cases hq : Nat.beq GID id with
   | false => rfl
   | true => rw [← jKF hq] at hid;simp at hid
  rw [hβ];simp [this]
 have ngid : ∀ {id ch},Phi.get Φ id = some ch → (∀ oi,ch ≠ .gh oi) ∨ id = id := fun _ => .inr rfl
 refine ⟨b,rfl,⟨r0,S',fun D => ¬ S' D, β',[(GID,.gh oi)],w'⟩,⟨rfl,rfl,oi,rfl,hβg,hin⟩,fun Φ' hΦ' => ⟨β',?_⟩⟩
 rw [← hoi] at hΦ'
 have other : ∀ {j ch},Phi.get Φ' j = some ch → (j = GID ∧ ch = .gh oi) ∨ ((!Nat.beq j GID) = true ∧ Phi.get Φ j = some ch) := by
  intro j ch h
  rw [hΦ'] at h
  cases hq : Nat.beq GID j with
  | true => rw [hq] at h;simp at h;exact .inl ⟨(jKF hq).symm,h.symm⟩
  | false =>
   rw [hq] at h
   refine .inr ⟨?_,h⟩
   cases hq' : Nat.beq j GID with
   | false => rfl
   | true => rw [jKF hq'] at hq;simp at hq
 have hidn : ∀ {x},S' x → r x = none ∧ ∀ id ch,Phi.get Φ id = some ch → ¬ ch.hb (β id) x := by
  intro x hx
  rcases hS' x hx with h | h
  ·exact (s.kept.block x h).2
  ·refine ⟨?_,fun id ch h1 h2 => by have := jNR s.mem h1 h2;omega⟩
   cases hq : r x with
   | none => rfl
   | some o => have := lt_of_heap (s.mem.vis x o hq);omega
 have heap : ∀ x,x < w.heap.size → ¬ e.S x → w'.heap[x]? = w.heap[x]? := hown.same
 refine ⟨?_,⟨fun b o h => ?_,fun id ch hi' => ?_,fun id ch b hi' hb' => ?_,fun id id' ch ch' b h1 h2 h3 h4 => ?_⟩,s.G,⟨hr0,rfl,rfl,rfl,Nat.le_refl _,fun x hx => ⟨rfl,(hidn hx).1,fun id ch hi' hb' => ?_⟩,fun id ch hi' hk => ?_,fun x hx => (hlt x hx).1⟩,?_,s.size⟩
 ·refine s.agree.of fun k g sv hk => ⟨sv,hk,fun v hr => ?_⟩
  exact hr.bind (p := fun i => !Nat.beq i GID) hβo (jPV hfσ k g sv hk)
 ·have h1 := s.mem.vis b o h
  rw [heap b (lt_of_heap h1) (fun hS => by rw [(s.kept.block b hS).2.1] at h;cases h)]
  exact h1
 ·rcases other hi' with ⟨rfl,rfl⟩ | ⟨hne,hg'⟩
  ·exact .gh hβg
  ·have hc := s.mem.chs id ch hg'
   have hfc := je7 hfΦ id ch hg'
   have e1 : β' id = β id := hβo id hne
   rw [e1]
   have h2 : ch.Sat r β w' (β id) := hc.keep (Mem.le_refl r) (fun b hb' => heap b (jNR s.mem hg' hb') (fun hS => (s.kept.block b hS).2.2 id ch hg' hb')) (fun _ _ _ _ _ _ _ h => h)
   refine h2.keep (Mem.le_refl r) (fun _ _ => rfl) fun _ cells hcl i sv v h3 h4 => ?_
   subst hcl
   exact h4.bind (p := fun i => !Nat.beq i GID) hβo (SV.okIdsL_get (by simpa [jZN] using hfc) i sv h3)
 ·rcases other hi' with ⟨rfl,rfl⟩ | ⟨hne,hg'⟩
  ·cases hb'
  ·rw [hβo id hne] at hb';exact s.mem.sep id ch b hg' hb'
 ·rcases other h1 with ⟨rfl,rfl⟩ | ⟨hne,hg1⟩
  ·cases h3
  ·rcases other h2 with ⟨rfl,rfl⟩ | ⟨hne',hg2⟩
   ·cases h4
   ·rw [hβo id hne] at h3;rw [hβo id' hne'] at h4
    exact s.mem.nod id id' ch ch' b hg1 hg2 h3 h4
 ·rcases other hi' with ⟨rfl,rfl⟩ | ⟨hne,hg'⟩
  ·cases hb'
  ·rw [hβo id hne] at hb';exact (hidn hx).2 id ch hg' hb'
 ·have hi' : Phi.get [(GID,Chunk.gh oi)] id = some ch := hi'
  rw [jKJ] at hi'
  cases hq : Nat.beq GID id with
  | true =>
   obtain rfl := jKF hq
   rw [hq] at hi';simp at hi';subst hi'
   exact ⟨rfl,.gh oi,by rw [hΦ'];simp,rfl⟩
  | false => rw [hq] at hi';simp [Phi.get] at hi'
 ·obtain ⟨Ds,h1,h2,h3⟩ := s.defers
  refine ⟨Ds,h1,h2,fun D hD => ?_⟩
  obtain ⟨g1,g2,g3,g4⟩ := h3 D hD
  rw [hF.lo] at g1
  have hDw := lt_of_heap g2
  refine ⟨fun hS => ?_,(heap D hDw g1).trans g2,g3,fun id ch hi' hb' => ?_⟩
  ·rcases hS' D hS with h | h
   ·exact g1 h
   ·omega
  ·rcases other hi' with ⟨rfl,rfl⟩ | ⟨hne,hg'⟩
   ·cases hb'
   ·rw [hβo id hne] at hb';exact g4 id ch hg' hb'
end
theorem It.intro {B : Base} {f : FuncId} {fn : Func} {c : Code} {caps : List SV} {pre : Prop} {len : Nat} {at_ : Nat → List SV} {N : Nat} (L : List Nat) (pl : List (Nat × List Nat)) (n : Nat)
    (call : ∀ (vs : Array Value) (w : World),(callFunc f vs).run B.P w = .ok (.enter f vs) w)
    (hf : B.P.funcs[f]? = some fn) (hb : fn.body = some c) (hN : fn.ntmps = N) (hok : (Nat.ble (caps.length + 1) N && (codeOk N pl c && SV.okIdsL (fun _ => false) caps)) = true)
    (h : pre → ∀ l,vc (B.withY ⟨l,len,at_⟩) L pl c (kGR B.P fn.results.toList len) (jVK 0 (.v (jXX l) :: caps)) [(GID,.gh (some 0))] n) : It B f caps pre len at_ := by
  refine ⟨call,fun hpre l r0 J Jx hJ hJx hY β w vs S hG m hl hJ0 => ?_⟩
  have h := h hpre l
  simp only [Bool.and_eq_true] at hok
  obtain ⟨hlen,hok,hcap⟩ := hok
  have hlen := Nat.le_of_ble_eq_true hlen
  obtain ⟨βi,hβi⟩ : ∃ βi : jKW, βi = fun _ => ghV (some 0) := ⟨_,rfl⟩
  have hrel : jKS r0 βi (.v (jXX l) :: caps) (jXX l :: vs) := by
    refine jKS.cons .v ⟨hl.1,fun i sv v h1 h2 => (hl.2 i sv v h1 h2).bind (p := fun _ => false) (fun _ h => by cases h) (SV.okIdsL_get hcap i sv h1)⟩
  generalize hargs : (SV.v (jXX l) :: caps) = args at h hrel
  have halen : args.length ≤ N := by rw [← hargs];simpa using hlen
  generalize (jXX l :: vs) = vs at hrel
  refine jM8 (ro := none) (n := 0) |>.1 ?_
  refine callsIn_of_wp_marks hf hb trivial ?_ rfl
  have hvl : vs.length = args.length := hrel.1
  have hsz : vs.toArray.size = args.length := by simpa using hvl
  rw [hN]
  have hget : ∀ (k : Nat) (v : Value),vs[k]? = some v → (vs.toArray ++ Array.replicate (N - vs.toArray.size) undef)[k]? = some v := by
    intro k v hk
    have : k < vs.length := jKM hk
    rw [Array.getElem?_append_left (by simpa using this)]
    simpa using hk
  have hbound := (hJ _ _ _ hJ0).1
  have he0 : ItE r0 J Jx ⟨r0,S,fun D => ¬ S D, βi,[(GID,.gh (some 0))],w⟩ := ⟨rfl,rfl,some 0,rfl,by rw [hβi],hJ0⟩
  have mi : MemSat r0 βi [(GID,.gh (some 0))] w := by
    have one : ∀ {id ch},Phi.get [(GID,Chunk.gh (some 0))] id = some ch → ch = .gh (some 0) := by
      intro id ch h
      rw [jKJ] at h
      cases hq : Nat.beq GID id with
      | true => rw [hq] at h;simp at h;exact h.symm
      | false => rw [hq] at h;simp [Phi.get] at h
    refine ⟨m.vis,fun id ch h => ?_,fun id ch b h h1 => ?_,fun id id' ch ch' b h h' h1 => ?_⟩
    · rw [one h];exact .gh (by rw [hβi])
    · rw [one h] at h1;cases h1
    · rw [one h] at h1;cases h1
  have s : Sat (B.withY ⟨l,len,at_⟩) ⟨r0,S,fun D => ¬ S D, βi,[(GID,.gh (some 0))],w⟩ N r0 βi (jVK 0 args) [(GID,.gh (some 0))] { tmps := vs.toArray ++ Array.replicate (N - vs.toArray.size) undef,defers := [] } w := by
    refine ⟨fun k g sv hg => ?_,mi,hG,⟨Mem.le_refl _,rfl,rfl,rfl,Nat.le_refl _,fun b hb => ⟨rfl,(hbound b hb).2,fun id ch hi hbk => ?_⟩,fun id ch hi _ => ⟨rfl,ch,hi,rfl⟩,fun b hb => (hbound b hb).1⟩,⟨[],rfl,List.nodup_nil,fun D hD => (List.not_mem_nil hD).elim⟩,by simp;omega⟩
    · obtain ⟨rfl,_,hk⟩ := jP1 hg
      have hk : args[k]? = some sv := by simpa using hk
      obtain ⟨v,hv⟩ := jNU hvl hk
      exact ⟨v,hget k v hv,hrel.2 k sv v hk hv⟩
    · rw [jKJ] at hi
      cases hq : Nat.beq GID id with
      | true => rw [hq] at hi;simp at hi;subst hi;cases hbk
      | false => rw [hq] at hi;simp [Phi.get] at hi
  have hng : jN0 (jVK 0 args) := fun k g sv hg => (jP1 hg).1
  refine wpIn_mono (jUW (B := B.withY ⟨l,len,at_⟩) c hok (ItE r0 J Jx) (ItE.yok hJ hJx hY N) (ItE.fam hJ hJx) none (.inl rfl) _ (fun l σ Φ n h => h) _ r0 βi (jVK 0 args) _ n _ w he0 h s hng) fun ex a' w' hq => ?_
  have fin : ∀ {ex},(∀ i,ex ≠ Ex.exit i) → Out (B.withY ⟨l,len,at_⟩) (ItE r0 J Jx) N (kGR B.P fn.results.toList len) ex a' w' →
      LeavesInM (fc none) 0 B.P fn a'.tmps (fun e w' => (∃ v,e = .returned v) ∧ ∃ S',J len S' w' ∨ Jx S' w') a'.defers .returning w' := by
    intro ex hex ⟨e',r', β', σ', Φ1,n',he',hk,s',_⟩
    have hk : jiL B.P σ' Φ1 fn.results.toList fun _ => jjX len Φ1 := by
      cases ex with
      | exit i => exact (hex i rfl).elim
      | normal => exact hk
      | ret => exact hk
    obtain ⟨ls,hfin,hl'⟩ := jR2 hk
    obtain ⟨Ds,hds,hnd,hD⟩ := s'.defers
    rw [hds]
    refine jPL (r := r') (β := β') (Φ := Φ1) (lo := e'.lo) Ds w' hnd hD s'.mem fun w2 m2 e1 e2 e3 e4 e5 => ?_
    obtain ⟨us,hus,hrun⟩ := hl' r' β' a' w2 s'.agree m2
    refine ⟨_,jQI hrun,⟨_,rfl⟩,e'.S,?_⟩
    have hle : r0.le r' := by rw [← he'.r];exact s'.kept.le
    have ho : Oth r0 e'.S w' w2 := ⟨e1,e2,e3,by rw [e4];exact Nat.le_refl _,fun b hb => e5 b (by rw [he'.lo];exact fun h => h hb),fun b o hb => m2.vis b o (hle b o hb)⟩
    rcases (jhY hfin).h with ⟨i,hg,rfl⟩ | hg
    · exact .inl (he'.now hJ hJx s' hg ho)
    · exact .inr (he'.now hJ hJx s' hg ho)
  cases ex with
  | normal => exact fin (by intro i h;cases h) hq
  | ret => exact fin (by intro i h;cases h) hq
  | exit i =>
    obtain ⟨_,r', β', σ', Φ1,n',_,hk,_⟩ := hq
    exact hk.elim
  | goto l => exact hq.elim
  | panic ch => exact hq.elim
  | outgrown => exact hq.elim
theorem ZA {p : Prop} [Decidable p] : (decide p = true) = p := decide_eq_true_eq
theorem ZB {p : Prop} [Decidable p] : decide p = false ↔ ¬ p := decide_eq_false_iff_not
theorem ZC.{u} {α : Type u} [BEq α] [LawfulBEq α] {a b : α} : (a == b) = true ↔ a = b := beq_iff_eq
theorem ZD.{u} {α : Type u} [BEq α] [LawfulBEq α] {a b : α} : (a == b) = false ↔ a ≠ b := beq_eq_false_iff_ne
theorem ZE.{u} {α : Type u} [BEq α] [LawfulBEq α] {a b : α} : (a != b) = true ↔ a ≠ b := bne_iff_ne
theorem ZF.{u} {α : Type u} [BEq α] [LawfulBEq α] {a b : α} : (a != b) = false ↔ a = b := bne_eq_false_iff_eq
theorem ZG.{u} {α : Sort u} (a b : α) : (a ≠ b) = ¬ (a = b) := ne_eq a b
theorem ZH (a b : Bool) : ((a && b) = true) = (a = true ∧ b = true) := Bool.and_eq_true a b
theorem ZI (a b : Bool) : ((a || b) = true) = (a = true ∨ b = true) := Bool.or_eq_true a b
theorem ZJ (b : Bool) : (¬ b = true) = (b = false) := Bool.not_eq_true b
theorem ZK (b : Bool) : (¬ b = false) = (b = true) := Bool.not_eq_false b
theorem ZL (b : Bool) : ((!b) = true) = (b = false) := Bool.not_eq_true' b
theorem ZM (b : Bool) : ((!b) = false) = (b = true) := Bool.not_eq_false' b
theorem ZN {a b : Int} : ¬ a < b ↔ b ≤ a := Int.not_lt
theorem ZO {a b : Int} : ¬ a ≤ b ↔ b < a := Int.not_le
abbrev W1 := @CallG.plain
abbrev W2 := @CallG.mk
abbrev W3 := @CallG.nwl
abbrev W4 := @CallG.nw
abbrev W5 := @CallF.nwl
abbrev W6 := @CallF.nw
abbrev W7 := @CallM.mk
abbrev WA := @And.intro
abbrev WF := @Fin.mk
abbrev WN := @AppN.mk
abbrev X1 := @CallS.q
abbrev X2 := @CallS.m
abbrev X3 := @CallS.h
abbrev X4 := @CallS.b
abbrev X5 := @CallS.z
abbrev X7 := @CallS.norm
abbrev X8 := @RdG.norm
end Go.Vc

namespace Go.Vc
set_option autoImplicit false
open Go.RowKit
theorem Fn.liftB {B : Base} {f : FuncId} {args : List SV} {pre : Prop} {res : SV}
  (call : ∀ (vs : Array Value) (w : World),(callFunc f vs).run B.P w = .ok (.enter f vs) w)
  (h : pre → ∀ (r : Mem) (β : jKW) (w : World) (vs : List Value),B.G r → MemSat r β [] w → jKS r β args vs →
   ∃ v,Calls B.P f vs.toArray w (fun e w' => e = .returned v ∧ Below w.heap.size w w') ∧ Rel r β res v) : Fn B f args pre res := by
 refine ⟨call,fun hp r β w vs hG m hl => ?_⟩
 obtain ⟨v,hc,hr⟩ := h hp r β w vs hG m hl
 refine hc.mono fun e w' hh => ?_
 obtain ⟨rfl,hb⟩ := hh
 refine ⟨v,res,r, β,[],rfl,⟨rfl,rfl⟩,hr,⟨fun b o h => ?_,fun _ _ h => (by cases h),fun _ _ _ h => (by cases h),fun _ _ _ _ _ h => (by cases h)⟩,Mem.le_refl r,
  ⟨hb.os,hb.tape,hb.output,hb.size,fun b hb' h1 h2 => ⟨hb.block b hb',h1,h2⟩,fun _ _ h => (by cases h)⟩⟩
 have := m.vis b o h
 rw [hb.block b (lt_of_heap this)];exact this
theorem jj5 {r : Mem} {β : jKW} {l : List (List UInt8)} {v : Value} {w : World} (hv : ∀ b o,r b = some o → w.heap[b]? = some o) (h : Rel r β (.rd .str l) v) :
  (l = [] ∧ ∃ a c,v = .slice a 0 c) ∨ ∃ b off cap,v = .slice (some ⟨b,off,none⟩) l.length cap ∧ l.length ≤ cap ∧ l.length ≤ 9223372036854775807 ∧ b < w.heap.size ∧
   ∀ (j : Nat) (x : List UInt8),l[j]? = some x → w.cell? ⟨b,off + j,none⟩ = some (.string ⟨x.toArray⟩) := by
 cases h with
 | rd h =>
  generalize hm : l.map (Ty.enc .str) = rows at h
  cases h with
  | litsE => left;exact ⟨by simpa using hm,_,_,rfl⟩
  | @lits _ _ _ b off cap c T fr hb hn hcap hrow ho hc hr =>
   right
   have hlen : rows.length = l.length := by rw [← hm];simp
   refine ⟨b,off,cap,by rw [hlen],by omega,by omega,lt_of_heap (hv b _ hb),fun j x hj => ?_⟩
   have hj' : rows[j]? = some [SV.str x] := by rw [← hm];simp [hj,Ty.enc]
   have hlt : j < rows.length := by
    rcases Nat.lt_or_ge j rows.length with h | h
    ·exact h
    ·rw [List.getElem?_eq_none h] at hj';cases hj'
   have hz : Ty.str.size = 1 := rfl
   rw [hz] at hc hr
   have hin : off + j < c.size := by omega
   have hcell : c[off + j * 1 + 0]? = some c[off + j] := by simp [hin]
   have := hr j _ 0 _ _ hj' rfl hcell
   generalize hcv : c[off + j] = cv at this hcell
   cases this
   simp only [World.cell?,hv b _ hb]
   simpa using hcell
end Go.Vc
