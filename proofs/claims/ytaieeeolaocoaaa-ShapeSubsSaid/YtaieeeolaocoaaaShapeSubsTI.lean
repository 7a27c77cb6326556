/- A part of the proof: lemmas and walks that the last text of the claim joins; no condition. -/
import Derived.Test.YtaieeeolaocoaaaShapeSubsTH
import Derived.Test.YtaieeeolaocoaaaShapeSubsTF
set_option linter.unusedVariables false
set_option linter.unusedSimpArgs false
set_option maxHeartbeats 8000000
namespace Go.Vc
open Go.Proofs
set_option autoImplicit false
theorem zg6 {t : List zXN} (h : zYY t = true) : 0 < t.length ∧ (nd t 0).1 = 0 ∧ (nd t 0).up = -1 ∧ ∀ i,i < t.length → okN t i = true := by
 unfold zYY at h
 simp only [Bool.and_eq_true,Bool.not_eq_true',List.all_eq_true,List.mem_range] at h
 have hb := h.1
 unfold badR at hb
 simp only [Bool.or_eq_false_iff,bne_eq_false_iff_eq,beq_eq_false_iff_ne] at hb
 exact ⟨by have := hb.1.1;omega,hb.1.2,hb.2,h.2.1⟩
theorem zvR {t : List zXN} (h : zYY t = true) {i a : Nat} (hi : i < t.length) (ha : (a : Int) ∈ zXL t i) : a < t.length ∧ (t.getD a zXK.dflt).up = (i : Int) := by
 have ho := (zg6 h).2.2.2 i hi
 unfold okN at ho
 simp only [Bool.and_eq_true,List.all_eq_true] at ho
 have := ho.2 a ha
 unfold zoF at this
 simp only [Bool.not_eq_true',Bool.or_eq_false_iff,decide_eq_false_iff_not,bne_eq_false_iff_eq] at this
 exact ⟨by have := this.1.2;omega,this.2⟩
theorem zqL {t : List zXN} (h : zYY t = true) {a : Nat} (ha : a < t.length) (h0 : a ≠ 0) : (1 ≤ (t.getD a zXK.dflt).1 ∧ (t.getD a zXK.dflt).1 ≤ 4) ∧ ∀ i : Nat,(t.getD a zXK.dflt).up = (i : Int) → (t.getD i zXK.dflt).1 ≤ 1 := by
 have ho := (zg6 h).2.2.2 a ha
 unfold okN at ho
 simp only [Bool.and_eq_true,Bool.not_eq_true'] at ho
 have hA := ho.1.1
 have hB := ho.1.2
 unfold zoB at hA
 unfold zzC at hB
 rw [decide_eq_true (show (a : Int) > 0 by omega),Bool.true_and] at hA
 simp only [Bool.or_eq_false_iff,decide_eq_false_iff_not] at hA
 refine ⟨⟨Int.not_lt.1 hA.1.1.1,Int.not_lt.1 hA.1.1.2⟩,fun i hi => ?_⟩
 have e : (ndR t a).up = (i : Int) := hi
 rw [e,decide_eq_true (show (i : Int) ≥ 0 by omega),Bool.true_and] at hB
 simp only [Bool.or_eq_false_iff,decide_eq_false_iff_not] at hB
 exact Int.not_lt.1 hB.1
theorem zyE {t : List zXN} (h : zYY t = true) : ∀ (f : Fo) (i : Nat),Kin (zXL t) i f → (∀ a ∈ f.lab,a < t.length ∧ a ≠ 0) → i < t.length → (f ≠ .nil → (t.getD i zXK.dflt).1 ≤ 1) ∧ Kd t f := by
 intro f
 induction f with
 | nil => intro i _ _ _;exact ⟨fun e => absurd rfl e,True.intro⟩
 | cons a c r ic ir =>
  intro i hk hl hi
  obtain ⟨k1,k2,k3⟩ := hk
  have ha := hl a (by simp [Fo.lab])
  have hup := (zvR h hi k1).2
  have hkd := zqL h ha.1 ha.2
  have b1 := ic a k2 (fun b hb => hl b (by simp [Fo.lab,hb])) ha.1
  have b2 := ir i k3 (fun b hb => hl b (by simp [Fo.lab,hb])) hi
  exact ⟨fun _ => hkd.2 i hup,hkd.1,b1.1,b1.2,b2.2⟩
theorem zgL {t : List zXN} {f : Fo} {s' : List Bool} {K : Nat → List Int} (d : D K (s0 t.length) 0 0 f s') : ∀ a ∈ f.lab,a < t.length ∧ a ≠ 0 := fun a ha => by
 have := (zy8 d).2.2.1 a ha
 rw [jC1,Bool.or_eq_false_iff,decide_eq_false_iff_not,decide_eq_false_iff_not] at this
 omega
theorem zz1 : ∀ (f : Fo) (i c : Nat) (x : St),(x.run (evF i f c)).L = x.L ++ f.lab := by
 intro f
 induction f with
 | nil => intro i c x;simp [evF,St.run,St.step,Fo.lab]
 | cons a g r ig ir =>
  intro i c x
  show ((x.step (a,(i : Int),c,false)).run (evF a g (c + 1) ++ evF i r (c + 2 + 2 * g.size))).L = _
  rw [zcS,ir,ig]
  simp [St.step,Fo.lab]
theorem zw3 {t : List zXN} (hne : t ≠ []) {f : Fo} {s' : List Bool} (d : D (zXL t) (s0 t.length) 0 0 f s') : fin t = ((st0 t.length).step (0, -1,0,false)).run (evF 0 f 1) := by
 have hn : t.length ≠ 0 := fun e => hne (List.length_eq_zero_iff.1 e)
 unfold fin zs6 zlI
 rw [if_neg hn]
 show ((st0 t.length).step (0, -1,0,false)).run (zfL (zXL t) [(0,0)] (s0 t.length) 1) = _
 unfold zfL
 rw [jCN d]
 show ((st0 t.length).step (0, -1,0,false)).run (evF 0 f 1 ++ []) = _
 rw [List.append_nil]
theorem zkM {t : List zXN} (hne : t ≠ []) {f : Fo} {s' : List Bool} (d : D (zXL t) (s0 t.length) 0 0 f s') : (fin t).L = 0 :: f.lab := by
 rw [zw3 hne d,zz1];rfl
theorem zlO {t u : List zXN} {f : Fo} (h : Laid t u f) : (fin u).L.length = u.length := by
 obtain ⟨s',d⟩ := jDO h
 rw [zkM (jAL h) d,List.length_cons,zaX,zqH,h.len];omega
def mks : Fo → Nat → List (Nat × Nat × Nat)
 | .nil,_ => []
 | .cons a g r,c => (a,c,c + 1 + 2 * g.size) :: (mks g (c + 1) ++ mks r (c + 2 + 2 * g.size))
theorem zpU : ∀ (f : Fo) (c : Nat),(mks f c).map (·.1) = f.lab := by
 intro f
 induction f with
 | nil => intro c;rfl
 | cons a g r ig ir => intro c;simp [mks,Fo.lab,ig,ir]
theorem jA6 (f : Fo) (c : Nat) : (mks f c).length = f.size := by rw [← zaX, ← zpU f c,List.length_map]
theorem zwE : ∀ (f : Fo) (c : Nat),∀ z ∈ mks f c,c ≤ z.2.1 ∧ z.2.1 < z.2.2 ∧ z.2.2 < c + 2 * f.size := by
 intro f
 induction f with
 | nil => intro c z hz;cases hz
 | cons a g r ig ir =>
  intro c z hz
  simp only [mks,List.mem_cons,List.mem_append] at hz
  simp only [Fo.size]
  rcases hz with rfl | hz | hz
  ·dsimp only;omega
  ·have := ig _ z hz;omega
  ·have := ir _ z hz;omega
theorem zeO (l : List Int) (k q : Nat) (v : Int) (hk : k < l.length) : (l.set k v).getD q (-1) = if q = k then v else l.getD q (-1) := by
 rw [List.getD_eq_getElem?_getD,List.getElem?_set,List.getD_eq_getElem?_getD]
 by_cases h : k = q
 ·rw [if_pos h,if_pos h.symm,if_pos hk];rfl
 ·rw [if_neg h,if_neg (fun e => h e.symm)]
theorem jBF : ∀ (f : Fo) (i c : Nat) (x : St),x.m = c → (∀ a ∈ f.lab,a < x.I.length ∧ a < x.O.length) → i < x.O.length → f.lab.Nodup → i ∉ f.lab →
  (x.run (evF i f c)).m = c + 1 + 2 * f.size ∧ (x.run (evF i f c)).I.length = x.I.length ∧ (x.run (evF i f c)).O.length = x.O.length ∧
  (∀ q,q ∉ f.lab → (x.run (evF i f c)).I.getD q (-1) = x.I.getD q (-1)) ∧ (∀ q,q ∉ f.lab → q ≠ i → (x.run (evF i f c)).O.getD q (-1) = x.O.getD q (-1)) ∧
  (x.run (evF i f c)).O.getD i (-1) = ((c + 2 * f.size : Nat) : Int) ∧ ∀ z ∈ mks f c,(x.run (evF i f c)).I.getD z.1 (-1) = (z.2.1 : Int) ∧ (x.run (evF i f c)).O.getD z.1 (-1) = (z.2.2 : Int) := by
 intro f
 induction f with
 | nil =>
  intro i c x hm _ hi _ _
  have e : x.run (evF i .nil c) = { x with P := x.P.dropLast,O := x.O.set i (x.m : Int),m := x.m + 1 } := by simp [evF,St.run,St.step]
  rw [e]
  refine ⟨by rw [hm];rfl,rfl,List.length_set ..,fun q _ => rfl,fun q _ hq => ?_,?_,fun z hz => (by cases hz)⟩
  ·show (x.O.set i (x.m : Int)).getD q (-1) = _
   rw [zeO _ _ _ _ hi,if_neg hq]
  ·show (x.O.set i (x.m : Int)).getD i (-1) = _
   rw [zeO _ _ _ _ hi,if_pos rfl,hm];rfl
 | cons a g r ig ir =>
  intro i c x hm hl hi hnd hni
  simp only [Fo.lab,List.nodup_cons,List.mem_append,List.nodup_append,List.mem_cons,not_or] at hnd hni
  obtain ⟨⟨ag,ar⟩,ng,nr,dj⟩ := hnd
  obtain ⟨ia,ig',ir'⟩ := hni
  have la := hl a (by simp [Fo.lab])
  have e : x.run (evF i (.cons a g r) c) = ((x.step (a,(i : Int),c,false)).run (evF a g (c + 1))).run (evF i r (c + 2 + 2 * g.size)) := by
   show (x.step (a,(i : Int),c,false)).run (evF a g (c + 1) ++ evF i r (c + 2 + 2 * g.size)) = _
   rw [zcS]
  rw [e]
  have e1 : x.step (a,(i : Int),c,false) = { x with L := x.L ++ [a],P := x.P ++ [a],I := x.I.set a (x.m : Int),m := x.m + 1 } := by simp [St.step]
  obtain ⟨p1,p2,p3,p4,p5,p6,p7⟩ := ig a (c + 1) (x.step (a,(i : Int),c,false)) (by rw [e1,hm]) (fun b hb => by rw [e1];exact ⟨by show b < (x.I.set a _).length;rw [List.length_set];exact (hl b (by simp [Fo.lab,hb])).1,(hl b (by simp [Fo.lab,hb])).2⟩) (by rw [e1];exact la.2) ng ag
  have hI1 : ∀ q,(x.step (a,(i : Int),c,false)).I.getD q (-1) = if q = a then (c : Int) else x.I.getD q (-1) := fun q => by
   rw [e1]
   show (x.I.set a (x.m : Int)).getD q (-1) = _
   rw [zeO _ _ _ _ la.1,hm]
  have hO1 : (x.step (a,(i : Int),c,false)).O = x.O := by rw [e1]
  have hIl : (x.step (a,(i : Int),c,false)).I.length = x.I.length := by rw [e1];exact List.length_set ..
  rw [hO1] at p3
  rw [hIl] at p2
  generalize (x.step (a,(i : Int),c,false)).run (evF a g (c + 1)) = y at *
  obtain ⟨r1,r2,r3,r4,r5,r6,r7⟩ := ir i (c + 2 + 2 * g.size) y (p1.trans (by omega)) (fun b hb => by rw [p2,p3];exact hl b (by simp [Fo.lab,hb])) (by rw [p3];exact hi) nr ir'
  refine ⟨by rw [r1];simp only [Fo.size];omega,by rw [r2,p2],by rw [r3,p3],fun q hq => ?_,fun q hq hqi => ?_,?_,fun z hz => ?_⟩
  ·simp only [Fo.lab,List.mem_cons,List.mem_append,not_or] at hq
   rw [r4 q hq.2.2,p4 q hq.2.1,hI1,if_neg hq.1]
  ·simp only [Fo.lab,List.mem_cons,List.mem_append,not_or] at hq
   rw [r5 q hq.2.2 hqi,p5 q hq.2.1 hq.1,hO1]
  ·rw [r6];simp only [Fo.size];exact congrArg (fun n : Nat => (n : Int)) (by omega)
  ·simp only [mks,List.mem_cons,List.mem_append] at hz
   rcases hz with rfl | hz | hz
   ·dsimp only
    rw [r4 a ar,p4 a ag,hI1,if_pos rfl,r5 a ar (fun e => ia e.symm),p6]
    exact ⟨rfl,rfl⟩
   ·have hzl : z.1 ∈ g.lab := by rw [← zpU g (c + 1)];exact List.mem_map_of_mem hz
    have hzr : z.1 ∉ r.lab := fun h => dj _ hzl _ h rfl
    rw [r4 _ hzr,r5 _ hzr (fun e => ig' (e ▸ hzl))]
    exact p7 z hz
   ·exact r7 z hz
def sub : Fo → Nat → Option (Nat × Fo)
 | .nil,_ => none
 | .cons a g r,m => if m = 0 then some (a,g) else if m - 1 < g.size then sub g (m - 1) else sub r (m - 1 - g.size)
theorem zqP : ∀ (f : Fo) (m : Nat),m < f.size → ∃ a g,sub f m = some (a,g) := by
 intro f
 induction f with
 | nil => intro m h;exact absurd h (Nat.not_lt_zero _)
 | cons a g r ig ir =>
  intro m h
  simp only [Fo.size] at h
  unfold sub
  by_cases h0 : m = 0
  ·rw [if_pos h0];exact ⟨a,g,rfl⟩
  ·rw [if_neg h0]
   by_cases h1 : m - 1 < g.size
   ·rw [if_pos h1];exact ig _ h1
   ·rw [if_neg h1];exact ir _ (by omega)
theorem zt0 : ∀ (f : Fo) (m a : Nat) (g : Fo),sub f m = some (a,g) → f.lab[m]? = some a := by
 intro f
 induction f with
 | nil => intro m a g h;cases h
 | cons b c r ic ir =>
  intro m a g h
  unfold sub at h
  by_cases h0 : m = 0
  ·rw [if_pos h0] at h;cases h;rw [h0];rfl
  ·rw [if_neg h0] at h
   obtain ⟨m,rfl⟩ : ∃ k,m = k + 1 := ⟨m - 1,by omega⟩
   simp only [Fo.lab,List.getElem?_cons_succ,Nat.add_sub_cancel] at h ⊢
   by_cases h1 : m < c.size
   ·rw [if_pos h1] at h
    rw [List.getElem?_append_left (by rw [zaX];exact h1)]
    exact ic _ _ _ h
   ·rw [if_neg h1] at h
    rw [List.getElem?_append_right (by rw [zaX];omega),zaX]
    exact ir _ _ _ h
theorem zlF {t u : List zXN} : ∀ (f : Fo) (m n p a : Nat) (g : Fo),Lay t u f n p → sub f m = some (a,g) → (∃ w : Nat,u.getD (n + m) zXK.dflt = ziL (mkN (t.getD a zXK.dflt) w) (zcL (n + m + 1) g)) ∧ Lay t u g (n + m + 1) (n + m) ∧ m + 1 + g.size ≤ f.size := by
 intro f
 induction f with
 | nil => intro m n p a g _ h;cases h
 | cons b c r ic ir =>
  intro m n p a g hl h
  obtain ⟨l1,l2,l3⟩ := hl
  unfold sub at h
  simp only [Fo.size]
  by_cases h0 : m = 0
  ·rw [if_pos h0] at h;cases h;subst h0
   exact ⟨⟨p,l1⟩,l2,by omega⟩
  ·rw [if_neg h0] at h
   by_cases h1 : m - 1 < c.size
   ·rw [if_pos h1] at h
    obtain ⟨q1,q2,q3⟩ := ic _ (n + 1) n a g l2 h
    rw [show n + 1 + (m - 1) = n + m by omega] at q1 q2
    exact ⟨q1,q2,by omega⟩
   ·rw [if_neg h1] at h
    obtain ⟨q1,q2,q3⟩ := ir _ (n + 1 + c.size) p a g l3 h
    rw [show n + 1 + c.size + (m - 1 - c.size) = n + m by omega] at q1 q2
    exact ⟨q1,q2,by omega⟩
theorem jCK {t : List zXN} : ∀ (f : Fo) (m a : Nat) (g : Fo),Kd t f → sub f m = some (a,g) → Kd t g := by
 intro f
 induction f with
 | nil => intro m a g _ h;cases h
 | cons b c r ic ir =>
  intro m a g hk h
  obtain ⟨k1,k2,k3,k4⟩ := hk
  unfold sub at h
  by_cases h0 : m = 0
  ·rw [if_pos h0] at h;cases h;exact k3
  ·rw [if_neg h0] at h
   by_cases h1 : m - 1 < c.size
   ·rw [if_pos h1] at h;exact ic _ _ _ k3 h
   ·rw [if_neg h1] at h;exact ir _ _ _ k4 h
theorem jAM : ∀ (f : Fo) (m c a : Nat) (g : Fo),sub f m = some (a,g) → ∃ e l,(a,e,l) ∈ mks f c ∧ ((mks f c).filter fun z => decide (e < z.2.1) && decide (z.2.2 < l)) = mks g (e + 1) := by
 intro f
 induction f with
 | nil => intro m c a g h;cases h
 | cons b k r ik ir =>
  intro m c a g h
  have bk := zwE k (c + 1)
  have br := zwE r (c + 2 + 2 * k.size)
  have hsplit : ∀ p : Nat × Nat × Nat → Bool,(mks (.cons b k r) c).filter p = (if p (b,c,c + 1 + 2 * k.size) = true then [(b,c,c + 1 + 2 * k.size)] else []) ++ ((mks k (c + 1)).filter p ++ (mks r (c + 2 + 2 * k.size)).filter p) := fun p => by
   rw [mks,List.filter_cons,List.filter_append]
   split <;> rfl
  unfold sub at h
  by_cases h0 : m = 0
  ·rw [if_pos h0] at h;cases h
   refine ⟨c,c + 1 + 2 * k.size,by simp [mks],?_⟩
   rw [hsplit,if_neg (by simp)]
   rw [List.filter_eq_self.2 (fun z hz => by have := bk z hz;simp only [Bool.and_eq_true,decide_eq_true_eq];omega),
    List.filter_eq_nil_iff.2 (fun z hz => by have := br z hz;simp only [Bool.and_eq_true,decide_eq_true_eq];omega)]
   simp
  ·rw [if_neg h0] at h
   by_cases h1 : m - 1 < k.size
   ·rw [if_pos h1] at h
    obtain ⟨e,l,q1,q2⟩ := ik _ (c + 1) a g h
    have qb := bk _ q1
    dsimp only at qb
    refine ⟨e,l,by simp [mks,q1],?_⟩
    rw [hsplit,if_neg (by simp only [Bool.and_eq_true,decide_eq_true_eq];omega),q2,
     List.filter_eq_nil_iff.2 (fun z hz => by have := br z hz;simp only [Bool.and_eq_true,decide_eq_true_eq];omega)]
    simp
   ·rw [if_neg h1] at h
    obtain ⟨e,l,q1,q2⟩ := ir _ (c + 2 + 2 * k.size) a g h
    have qb := br _ q1
    dsimp only at qb
    refine ⟨e,l,by simp [mks,q1],?_⟩
    rw [hsplit,if_neg (by simp only [Bool.and_eq_true,decide_eq_true_eq];omega),q2,
     List.filter_eq_nil_iff.2 (fun z hz => by have := bk z hz;simp only [Bool.and_eq_true,decide_eq_true_eq];omega)]
    simp
end Go.Vc

namespace Go.Vc
open Go.Proofs
set_option autoImplicit false
theorem jG4 {t u : List zXN} : ∀ (f : Fo) (n p : Nat),Lay t u f n p → Kd t f → Kd u (re n f) := by
 intro f
 induction f with
 | nil => intro n p _ _;exact True.intro
 | cons a c r ic ir =>
  intro n p hl hk
  obtain ⟨l1,l2,l3⟩ := hl
  obtain ⟨k1,k2,k3,k4⟩ := hk
  have e : (u.getD n zXK.dflt).1 = (t.getD a zXK.dflt).1 := by rw [l1];rfl
  refine ⟨?_,fun h => ?_,ic _ _ l2 k3,ir _ _ l3 k4⟩
  ·rw [e];exact k1
  ·rw [e];exact k2 (fun h2 => h (by rw [h2];rfl))
def F0 (f : Fo) : Fo := .cons 0 f .nil
theorem zgN (f : Fo) : (F0 f).lab = 0 :: f.lab := by simp [F0,Fo.lab]
theorem jAQ (f : Fo) : (F0 f).size = 1 + f.size := by simp [F0,Fo.size]
theorem zzY {t x : List zXN} {f : Fo} (h : Laid t x f) {k a : Nat} {g : Fo} (hs : sub (F0 f) k = some (a,g)) : (x.getD k zXK.dflt).kids = zcL (k + 1) g ∧ Lay t x g (k + 1) k ∧ k + 1 + g.size ≤ x.length := by
 unfold F0 sub at hs
 by_cases h0 : k = 0
 ·rw [if_pos h0] at hs
  cases hs;subst h0
  exact ⟨h.kids,h.lay,by rw [h.len];omega⟩
 ·rw [if_neg h0] at hs
  by_cases h1 : k - 1 < f.size
  ·rw [if_pos h1] at hs
   obtain ⟨⟨w,q1⟩,q2,q3⟩ := zlF f (k - 1) 1 0 a g h.lay hs
   rw [show 1 + (k - 1) = k by omega] at q1 q2
   exact ⟨by rw [q1];rfl,q2,by rw [h.len];omega⟩
  ·rw [if_neg h1] at hs;cases hs
theorem jJH {t : List zXN} {f : Fo} (h : Kd t f) {k a : Nat} {g : Fo} (hs : sub (F0 f) k = some (a,g)) : Kd t g := by
 unfold F0 sub at hs
 by_cases h0 : k = 0
 ·rw [if_pos h0] at hs;cases hs;exact h
 ·rw [if_neg h0] at hs
  by_cases h1 : k - 1 < f.size
  ·rw [if_pos h1] at hs;exact jCK f _ _ _ h hs
  ·rw [if_neg h1] at hs;cases hs
theorem zwR {x v : List zXN} {f : Fo} (h : Laid x v f) : Laid x (zjZ v) f ∧ ((zjZ v).getD 0 zXK.dflt).1 = 0 := by
 have hlen := h.len
 have h0 : 0 < v.length := by omega
 have e0 : (zjZ v).getD 0 zXK.dflt = (0,0,[],[],[], -1,(v.getD 0 zXK.dflt).kids) := by
  unfold zjZ
  rw [List.getD_eq_getElem?_getD,List.getElem?_set,if_pos rfl,if_pos h0];rfl
 have eq : ∀ q,1 ≤ q → (zjZ v).getD q zXK.dflt = v.getD q zXK.dflt := fun q hq => by
  unfold zjZ
  rw [List.getD_eq_getElem?_getD,List.getElem?_set,if_neg (by omega),List.getD_eq_getElem?_getD]
 refine ⟨⟨?_,?_,?_,zmC f 1 0 (fun q q1 _ => eq q q1) h.lay⟩,by rw [e0]⟩
 ·unfold zjZ;rw [List.length_set,h.len]
 ·rw [e0];exact h.kids
 ·rw [e0]
theorem zi1 {t x : List zXN} {f : Fo} (h : Laid t x f) {k a : Nat} {g : Fo} (hs : sub (F0 f) k = some (a,g)) : Laid x (zjV x k) (re (k + 1) g) ∧ ((zjV x k).getD 0 zXK.dflt).1 = 0 := by
 obtain ⟨q1,q2,q3⟩ := zzY h hs
 obtain ⟨s',d⟩ := zqQ q2 q1 q3
 unfold zjV
 have e : zg1 x (zXL x) [] (List.replicate x.length false) k (-1) = zaR x (re (k + 1) g) [mkN (x.getD k zXK.dflt) (-1)] 0 := zzX x d (-1)
 rw [e]
 exact zwR (ze0 x (re (k + 1) g) (mkN (x.getD k zXK.dflt) (-1)) rfl rfl).1
theorem zfP {l : List Int} {i : Int} {k : Nat} (h : zgS l i = some k) : k < l.length ∧ l.getD k 0 = i := by
 unfold zgS at h
 have h1 := List.mem_of_find?_eq_some h
 have h2 := List.find?_some h
 exact ⟨List.mem_range.1 h1,by simpa using h2⟩
theorem zrY {l : List Int} {i : Int} (h : zgS l i = none) : i ∉ l := by
 intro hm
 obtain ⟨k,hk,e⟩ := List.getElem_of_mem hm
 unfold zgS at h
 rw [List.find?_eq_none] at h
 refine h k (List.mem_range.2 hk) ?_
 rw [List.getD_eq_getElem?_getD,List.getElem?_eq_getElem hk]
 simp [e]
def zr5 (I O : List Int) (v i : Nat) : Bool := decide (0 ≤ I.getD v (-1)) && decide (0 ≤ I.getD i (-1)) && (decide (I.getD i (-1) < I.getD v (-1)) && decide (O.getD v (-1) < O.getD i (-1)))
def jBH (t : List zXN) (i : Nat) : Nat := ((List.range t.length).filter fun v => zr5 (fin t).I (fin t).O v i).length
theorem zrN {t : List zXN} (hne : t ≠ []) {f : Fo} {s' : List Bool} (d : D (zXL t) (s0 t.length) 0 0 f s') :
  (∀ z ∈ mks (F0 f) 0,(fin t).I.getD z.1 (-1) = (z.2.1 : Int) ∧ (fin t).O.getD z.1 (-1) = (z.2.2 : Int)) ∧ ∀ v,v ∉ (F0 f).lab → (fin t).I.getD v (-1) = -1 := by
 have hl := zgL d
 have hnd := (zy8 d).2.1
 have hn : 0 < t.length := List.length_pos_iff.2 hne
 have e1 : (st0 t.length).step (0, -1,0,false) = { L := [0],P := [0],I := (List.replicate t.length (-1)).set 0 0,O := List.replicate t.length (-1),m := 1 } := by simp [st0,St.step]
 obtain ⟨r1,r2,r3,r4,r5,r6,r7⟩ := jBF f 0 1 ((st0 t.length).step (0, -1,0,false)) (by rw [e1]) (fun a ha => by rw [e1];simp;exact (hl a ha).1) (by rw [e1];simpa using hn) hnd (fun h => (hl 0 h).2 rfl)
 rw [← zw3 hne d] at r4 r6 r7
 have hI0 : ∀ q,((st0 t.length).step (0, -1,0,false)).I.getD q (-1) = if q = 0 then 0 else -1 := fun q => by
  rw [e1]
  show ((List.replicate t.length (-1 : Int)).set 0 0).getD q (-1) = _
  rw [zeO _ _ _ _ (by simpa using hn)]
  by_cases h : q = 0
  ·rw [if_pos h,if_pos h]
  ·rw [if_neg h,if_neg h]
   rw [List.getD_eq_getElem?_getD,List.getElem?_replicate]
   split <;> rfl
 constructor
 ·intro z hz
  have hz2 : z = (0,0,0 + 1 + 2 * f.size) ∨ z ∈ mks f 1 := by simpa [F0,mks] using hz
  rcases hz2 with rfl | hz
  ·dsimp only
   rw [r4 0 (fun h => (hl 0 h).2 rfl),hI0,if_pos rfl,r6]
   exact ⟨rfl,congrArg (fun n : Nat => (n : Int)) (by omega)⟩
  ·exact r7 z hz
 ·intro v hv
  rw [zgN,List.mem_cons,not_or] at hv
  rw [r4 v hv.2,hI0,if_neg hv.1]
theorem jAS {t : List zXN} (hne : t ≠ []) {f : Fo} {s' : List Bool} (d : D (zXL t) (s0 t.length) 0 0 f s') {k i : Nat} {g : Fo} (hs : sub (F0 f) k = some (i,g)) : jBH t i = g.size := by
 obtain ⟨h1,h2⟩ := zrN hne d
 obtain ⟨e,l,m1,m2⟩ := jAM (F0 f) k 0 i g hs
 have hi := h1 _ m1
 dsimp only at hi
 have hlab : ∀ v ∈ (F0 f).lab,v < t.length := fun v hv => by
  rw [zgN,List.mem_cons] at hv
  rcases hv with rfl | hv
  ·exact List.length_pos_iff.2 hne
  ·exact (zgL d v hv).1
 have hnd : (F0 f).lab.Nodup := by
  rw [zgN,List.nodup_cons]
  exact ⟨fun h => (zgL d 0 h).2 rfl,(zy8 d).2.1⟩
 have hp : ((List.range t.length).filter fun v => zr5 (fin t).I (fin t).O v i).Perm ((F0 f).lab.filter fun v => zr5 (fin t).I (fin t).O v i) := by
  refine (List.perm_ext_iff_of_nodup (List.nodup_range.filter _) (hnd.filter _)).2 fun v => ?_
  rw [List.mem_filter,List.mem_filter,List.mem_range]
  constructor
  ·rintro ⟨_,q⟩
   refine ⟨Classical.byContradiction fun hv => ?_,q⟩
   unfold zr5 at q
   rw [h2 v hv] at q
   simp at q
  ·rintro ⟨q1,q2⟩
   exact ⟨hlab v q1,q2⟩
 have hm : (F0 f).lab.filter (fun v => zr5 (fin t).I (fin t).O v i) = (mks g (e + 1)).map (·.1) := by
  rw [← zpU (F0 f) 0,List.filter_map, ← m2]
  congr 1
  refine List.filter_congr fun z hz => ?_
  obtain ⟨z1,z2⟩ := h1 z hz
  show zr5 (fin t).I (fin t).O z.1 i = _
  unfold zr5
  rw [z1,z2,hi.1,hi.2,decide_eq_true (by omega),decide_eq_true (by omega)]
  simp only [Bool.true_and,Int.ofNat_lt]
 unfold jBH
 rw [hp.length_eq,hm,List.length_map,jA6]
theorem zh3 : Laid [] [zcM] .nil := ⟨rfl,rfl,rfl,True.intro⟩
theorem zz3 {t : List zXN} (h : zYY t = true) (i : Int) : zYY (zgU t i) = true ∧ (fin (zgU t i)).L.length = (zgU t i).length ∧ (zgU t i).length = 1 + (if 0 ≤ i ∧ i < t.length then jBH t i.toNat else 0) := by
 have h0 := zg6 h
 have hne : t ≠ [] := fun e => by rw [e] at h0;exact absurd h0.1 (by decide)
 obtain ⟨f,s',d,e⟩ := zh4 hne
 obtain ⟨hl,hr⟩ := ze0 t f (mkN (t.getD 0 zXK.dflt) (-1)) rfl rfl
 rw [← e] at hl hr
 have hK := (zyE h f 0 (jGV d) (zgL d) h0.1).2
 have hL : (fin t).L = (F0 f).lab := by rw [zgN];exact zkM hne d
 cases hf : zgS (zbL (fin t).L) i with
 | none =>
  have es : zgU t i = [zcM] := by unfold zgU;rw [hf]
  have hni := zrY hf
  rw [es]
  refine ⟨zjS zh3 rfl True.intro,zlO zh3,?_⟩
  have hz : 0 ≤ i ∧ i < t.length → jBH t i.toNat = 0 := fun hi => by
   unfold jBH
   rw [List.length_eq_zero_iff,List.filter_eq_nil_iff]
   intro v _
   have hv : i.toNat ∉ (F0 f).lab := fun q => hni (by
    unfold zbL
    rw [hL]
    exact List.mem_map.2 ⟨i.toNat,q,by omega⟩)
   unfold zr5
   rw [(zrN hne d).2 _ hv]
   simp
  by_cases hi : 0 ≤ i ∧ i < t.length
  ·rw [if_pos hi,hz hi];rfl
  ·rw [if_neg hi];rfl
 | some k =>
  have es : zgU t i = zjV (zZC t) k := by unfold zgU;rw [hf]
  obtain ⟨hk,hki⟩ := zfP hf
  have hkl : k < (F0 f).size := by
   unfold zbL at hk
   rw [List.length_map,hL,zaX] at hk;exact hk
  obtain ⟨a,g,hs⟩ := zqP (F0 f) k hkl
  have ha := zt0 (F0 f) k a g hs
  have hia : i = (a : Int) := by
   rw [← hki]
   unfold zbL
   rw [hL,List.getD_eq_getElem?_getD,List.getElem?_map,ha];rfl
  have hal : a < t.length := by
   have hm : a ∈ (F0 f).lab := List.mem_of_getElem? ha
   rw [zgN,List.mem_cons] at hm
   rcases hm with rfl | hm
   ·exact h0.1
   ·exact (zgL d a hm).1
  obtain ⟨ql,q0⟩ := zi1 hl hs
  obtain ⟨p1,p2,p3⟩ := zzY hl hs
  have hKr := jG4 g (k + 1) k p2 (jJH hK hs)
  rw [es]
  refine ⟨zjS ql q0 hKr,zlO ql,?_⟩
  rw [ql.len,zqH,if_pos ⟨by omega,by omega⟩,hia,Int.toNat_natCast,jAS hne d hs]
theorem ze4 {t : List zXN} (h : zYL t = true) : zYL (zZC t) = true ∧ (fin t).L.length ≤ (zZC t).length ∧ (zZC t).length ≤ 1000 := by
 by_cases hne : t = []
 ·have e : zZC t = [zcM] := by unfold zZC;rw [if_pos hne]
  rw [e,hne]
  exact ⟨by decide,by decide,by decide⟩
 ·obtain ⟨f,s',d,e⟩ := zh4 hne
  obtain ⟨hl,hr⟩ := ze0 t f (mkN (t.getD 0 zXK.dflt) (-1)) rfl rfl
  rw [← e] at hl hr
  have hlen := hl.len
  have hL := zkM hne d
  have hnd : (F0 f).lab.Nodup := by
   rw [zgN,List.nodup_cons]
   exact ⟨fun q => (zgL d 0 q).2 rfl,(zy8 d).2.1⟩
  have hle := zg8 (n := t.length) hnd (fun v hv => by
   rw [zgN,List.mem_cons] at hv
   rcases hv with rfl | hv
   ·exact List.length_pos_iff.2 hne
   ·exact (zgL d v hv).1)
  rw [zaX,jAQ] at hle
  have hs := zeW h
  have hat : ∀ a,a < t.length → (t.getD a zXK.dflt).2.2.2.1.length ≤ 1000 := fun a ha => (zb4 h (a : Int) (zYW.2 ⟨by omega,by omega⟩)).1
  refine ⟨?_,by rw [hL,List.length_cons,zaX,hlen];omega,by omega⟩
  unfold zYL
  rw [Bool.and_eq_true,decide_eq_true_eq,List.all_eq_true]
  refine ⟨by omega,fun n hn => ?_⟩
  obtain ⟨q,hq,rfl⟩ := List.getElem_of_mem hn
  have hg : (zZC t).getD q zXK.dflt = (zZC t)[q] := by rw [List.getD_eq_getElem?_getD,List.getElem?_eq_getElem hq];rfl
  rw [Bool.and_eq_true,decide_eq_true_eq,decide_eq_true_eq]
  rw [← hg]
  by_cases h0 : q = 0
  ·subst h0
   rw [hr]
   exact ⟨hat 0 (List.length_pos_iff.2 hne),by show (zcL 1 f).length ≤ 1000;have := zg0 f 1;omega⟩
  ·obtain ⟨a,g,hs2⟩ := zqP f (q - 1) (by omega)
   obtain ⟨⟨w,q1⟩,_,_⟩ := zlF f (q - 1) 1 0 a g hl.lay hs2
   rw [show 1 + (q - 1) = q by omega] at q1
   rw [q1]
   have hgs : g.size ≤ f.size := by have := (zlF f (q - 1) 1 0 a g hl.lay hs2).2.2;omega
   refine ⟨hat a (zgL d a (List.mem_of_getElem? (zt0 f _ _ _ hs2))).1,?_⟩
   show (zcL (q + 1) g).length ≤ 1000
   have := zg0 g (q + 1);omega
theorem jAK {t : List zXN} (h : zYL t = true) (h2 : t.length ≤ 45) : zn4 t := ⟨h,h2,(ze4 h).1,(ze4 h).2.1,(ze4 h).2.2⟩
end Go.Vc

namespace Go.Vc
open Go.Proofs
set_option maxRecDepth 10000
set_option maxHeartbeats 8000000
theorem jBG {l : List Int} {i : Int} : (zjA l i < 0 → zgS l i = none) ∧ (¬ zjA l i < 0 → (zjA l i).toNat < l.length ∧ zgS l i = some (zjA l i).toNat) := by
 cases hf : zgS l i with
 | none =>
  have hn := zrY hf
  have e : zjA l i = -1 := zmB (by simpa using hn)
  exact ⟨fun _ => rfl,fun h => by rw [e] at h;exact absurd (by decide) h⟩
 | some k =>
  obtain ⟨hk,hki⟩ := zfP hf
  have hno : (l.take k).contains i = false := by
   rw [Bool.eq_false_iff]
   intro hc
   rw [List.contains_iff_mem] at hc
   obtain ⟨j,hj,e⟩ := List.getElem_of_mem hc
   rw [List.length_take] at hj
   unfold zgS at hf
   obtain ⟨_,la,lb,e2,e3⟩ := List.find?_eq_some_iff_append.1 hf
   have hal : la.length = k := by
    have h2 := congrArg (fun l : List Nat => l[la.length]?) e2
    simp only [List.getElem?_append_right (Nat.le_refl _),Nat.sub_self,List.getElem?_cons_zero] at h2
    rw [List.getElem?_range] at h2
    ·exact Option.some.inj h2
    ·have := congrArg List.length e2
     rw [List.length_range,List.length_append,List.length_cons] at this
     omega
   have hjm : j ∈ la := by
    have h2 := congrArg (fun l : List Nat => l[j]?) e2
    simp only [List.getElem?_append_left (by omega : j < la.length)] at h2
    rw [List.getElem?_range (by omega)] at h2
    exact List.mem_of_getElem? h2.symm
   have h4 := e3 j hjm
   rw [List.getElem_take] at e
   rw [List.getD_eq_getElem?_getD,List.getElem?_eq_getElem (by omega)] at h4
   simp [e] at h4
  have e : zjA l i = k := zvG hk hno hki.symm
  exact ⟨fun h => by omega,fun _ => by rw [e];exact ⟨by omega,rfl⟩⟩
instance sSubN (t : List zXN) (i : Int) : FnM BN 17 [.agg [.rd zXK t],.int .i64 i] [] (zn4 t) (.agg [.rd zXK (zgU t i)]) [] := by
 refine FnM.intro (N := 28) [0,1,2,4,5,6,12] [(5,[0,1,0,1,1,1,1,1,3,3])] 0 Try.call17 Try.func17 rfl rfl (by kernel_rfl) (fun hpre => ?_)
 obtain ⟨h1,h2,h3,h4,h5⟩ := hpre
 have hll : (zbL (fin t).L).length = (fin t).L.length := by unfold zbL;rw [List.length_map]
 have hf := @jBG (zbL (fin t).L) i
 have hlen := fun k => (zkK (t := zZC t) (K := zXL (zZC t)) [] (List.replicate (zZC t).length false) k (-1)).1
 have hs1 : zjA (zbL (fin t).L) i < 0 → zgU t i = [zcM] := fun h => by unfold zgU;rw [hf.1 h]
 have hs2 : ¬ zjA (zbL (fin t).L) i < 0 → zgU t i = zjV (zZC t) (zjA (zbL (fin t).L) i).toNat := fun h => by unfold zgU;rw [(hf.2 h).2]
 repeat' ((conv => whnf);first|(with_reducible first|rfl|exact zXT|exact zXS)|exact True.intro|intro _|refine WA ?_ ?_|refine WF ?_|refine W1 rfl ?_ ?_|refine W2 rfl ?_ ?_|refine W3 rfl ?_ ?_|refine W4 ?_ ?_|refine W5 rfl ?_ ?_|refine W6 ?_ ?_|refine WN ?_|refine X1 (W1 rfl ?_ ?_)|refine X1 (W2 rfl ?_ ?_)|refine X2 (W7 rfl ?_ ?_)|refine X3 (W7 rfl ?_ ?_)|refine X4 (W7 rfl ?_ ?_)|refine X5 (W7 rfl ?_ ?_))
 all_goals (try (conv => whnf))
 all_goals (try first|exact obA|refine Ob.mk ?_)
 ·rw [hs1 (of_decide_eq_true ‹_›)]
 all_goals (have hn := of_decide_eq_false ‹decide (zjA (zbL (fin t).L) i < 0) = false›)
 all_goals (have hq := (hf.2 hn).1)
 all_goals (have hlk := hlen (zjA (zbL (fin t).L) i).toNat;simp only [List.length_nil] at hlk)
 all_goals (first | (rw [hs2 hn];rfl) | exact ⟨h3,by omega,by omega⟩ | exact ⟨Int.le_refl 0,by omega⟩ | (show 0 < _;omega) | trace_state)
instance sSub (t : List zXN) (i : Int) : FnM BB 17 [.agg [.rd zXK t],.int .i64 i] [] (zn4 t) (.agg [.rd zXK (zgU t i)]) [] :=
 have h := sSubN t i
 ⟨h.call,h.ok⟩
instance sSize (t : List zXN) : Fn BB 12 [.agg [.rd zXK t]] (t.length ≤ 45) (.int .i64 ((zbL (fin t).L).length : Nat)) := by
 refine Fn.intro (N := 6) [0,1,2] [] Try.call12 Try.func12 rfl rfl (by kernel_rfl) (fun hpre => ?_)
 repeat' ((conv => whnf);first|(with_reducible first|rfl|exact zXT|exact zXS)|exact True.intro|intro _|refine WA ?_ ?_|refine WF ?_|refine W1 rfl ?_ ?_|refine W2 rfl ?_ ?_|refine W3 rfl ?_ ?_|refine W4 ?_ ?_|refine W5 rfl ?_ ?_|refine W6 ?_ ?_|refine WN ?_|refine X1 (W1 rfl ?_ ?_)|refine X1 (W2 rfl ?_ ?_)|refine X2 (W7 rfl ?_ ?_)|refine X3 (W7 rfl ?_ ?_)|refine X4 (W7 rfl ?_ ?_)|refine X5 (W7 rfl ?_ ?_))
 all_goals (try (conv => whnf))
 all_goals (try first|exact obA|refine Ob.mk ?_)
 all_goals (try rfl)
 all_goals trace_state
end Go.Vc

namespace Go.Vc
open Go.Proofs
set_option maxRecDepth 10000
instance decN1 : DecidableEq (List UInt8) := inferInstance
instance decN2 : DecidableEq (List UInt8 × List UInt8) := instDecidableEqProd
instance decN3 : DecidableEq (Int × List Int) := instDecidableEqProd
instance decN4 : DecidableEq (List (List UInt8 × List UInt8)) := instDecidableEqList
instance decN5 : DecidableEq (List UInt8 × Int × List Int) := instDecidableEqProd
instance decNode : DecidableEq zXN := (instDecidableEqProd : DecidableEq (Int × Int × List UInt8 × List (List UInt8 × List UInt8) × List UInt8 × Int × List Int))
def jAD (K : Nat → List Int) : Nat → List Bool → Nat → Nat → Nat → Option (List Ev × List Bool × Nat)
 | 0,_,_,_,_ => none
 | f + 1,s,i,j,c =>
  if j < (K i).length then
   if okK s ((K i).getD j 0) = true then
    match jAD K f (s.set ((K i).getD j 0).toNat true) ((K i).getD j 0).toNat 0 (c + 1) with
    | none => none
    | some r1 =>
     match jAD K f r1.2.1 i (j + 1) r1.2.2 with
     | none => none
     | some r2 => some ((((K i).getD j 0).toNat,(i : Int),c,false) :: (r1.1 ++ r2.1),r2.2.1,r2.2.2)
   else jAD K f s i (j + 1) c
  else some ([(i,0,c,true)],s,c + 1)
theorem zwO {K : Nat → List Int} : ∀ (f : Nat) (s : List Bool) (i j c : Nat) (r : List Ev × List Bool × Nat),jAD K f s i j c = some r → dfs K s i j c = r := by
 intro f
 induction f with
 | zero => intro s i j c r h;cases h
 | succ f ih =>
  intro s i j c r h
  rw [jAD] at h
  split at h
  ·rename_i hj
   split at h
   ·rename_i hk
    split at h
    ·cases h
    ·rename_i r1 h1
     split at h
     ·cases h
     ·rename_i r2 h2
      cases h
      rw [zcK hj hk,ih _ _ _ _ _ h1,ih _ _ _ _ _ h2]
   ·rename_i hk
    rw [zZ7 hj (by simpa using hk)]
    exact ih _ _ _ _ _ h
  ·rename_i hj
   cases h
   exact zZ5 hj
def jDE (t : List zXN) (f : Nat) : Option St :=
 if t.length = 0 then none else
 match jAD (zXL t) f ((List.replicate t.length false).set 0 true) 0 0 1 with
 | some r => some ((st0 t.length).run ((0, -1,0,false) :: r.1))
 | none => none
theorem zvZ {t : List zXN} {f : Nat} {y : St} (h : jDE t f = some y) : fin t = y := by
 unfold jDE at h
 split at h
 ·cases h
 ·rename_i h0
  split at h
  ·rename_i r hr
   cases h
   unfold fin zs6 zlI
   rw [if_neg h0,zfL,zfL,List.append_nil,zwO _ _ _ _ _ _ hr]
  ·cases h
def jFB (t : List zXN) (k f : Nat) : Option (List zXN) :=
 match jAD (zXL t) f ((List.replicate t.length false).set k true) k 0 0 with
 | some r => some (({ out := [mkN (t.getD k zXK.dflt) (-1)],P := [0] } : PSt).run t r.1).out
 | none => none
theorem zqK {t : List zXN} {k f : Nat} {x : List zXN} (h : jFB t k f = some x) : zg1 t (zXL t) [] (List.replicate t.length false) k (-1) = x := by
 unfold jFB at h
 split at h
 ·rename_i r hr
  cases h
  unfold zg1 pS
  rw [zwO _ _ _ _ _ _ hr]
  rfl
 ·cases h
def jJY (t : List zXN) (i : Int) (f : Nat) : Option (List zXN) :=
 match jDE t f,jFB t 0 f with
 | some y,some x =>
  if zYL t && decide (t.length ≤ 45) && zYL x && decide (y.L.length ≤ x.length) && decide (x.length ≤ 1000) && decide (0 < t.length) then
   match zgS (zbL y.L) i with
   | none => some [zcM]
   | some k => match jFB x k f with | some z => some (zjZ z) | none => none
  else none
 | _,_ => none
theorem zz5 {t : List zXN} {i : Int} {f : Nat} {T : List zXN} (h : jJY t i f = some T) : zn4 t ∧ zgU t i = T := by
 unfold jJY at h
 split at h
 ·rename_i y x hy hx
  split at h
  ·rename_i hc
   simp only [Bool.and_eq_true,decide_eq_true_eq] at hc
   have e1 := zvZ hy
   have e0 : ¬ t = [] := fun e => by rw [e] at hc;exact absurd hc.2 (by decide)
   have e2 : zZC t = x := by unfold zZC;rw [if_neg e0];exact zqK hx
   refine ⟨⟨hc.1.1.1.1.1,hc.1.1.1.1.2,by rw [e2];exact hc.1.1.1.2,by rw [e1,e2];exact hc.1.1.2,by rw [e2];exact hc.1.2⟩,?_⟩
   unfold zgU
   rw [e1,e2]
   split at h
   ·rename_i hk;rw [hk];exact Option.some.inj h
   ·rename_i k hk
    rw [hk]
    split at h
    ·rename_i z hz
     show zjV x k = T
     unfold zjV
     rw [zqK hz]
     exact Option.some.inj h
    ·cases h
  ·cases h
 ·cases h
end Go.Vc

namespace Go.Vc
open Go.Proofs
set_option maxRecDepth 100000
set_option maxHeartbeats 8000000
theorem Fn.wk {B : Base} {f : FuncId} {args args' : List SV} {pre : Prop} {res : SV} (F : Fn B f args pre res) (h : ∀ r β vs,zX1 r β args' vs → zX1 r β args vs) : Fn B f args' pre res :=
 ⟨F.call,fun hp r β w vs hG m hl => F.ok hp r β w vs hG m (h r β vs hl)⟩
theorem jJZ {r : Mem} {β : zX4} (vs : List Value) (q : zX1 r β [.agg [.nils]] vs) : zX1 r β [.agg [.rd zXK []]] vs := by
 refine ⟨q.1,fun i sv v h1 h2 => ?_⟩
 match i,h1 with
 | 0,h1 =>
  cases h1
  have := q.2 0 _ v rfl h2
  cases this with
  | agg hl h =>
   refine .agg hl fun j sv w h3 h4 => ?_
   match j,h3 with
   | 0,h3 => cases h3;have := h 0 _ w rfl h4;cases this;exact .rd .litsE
instance sRightNil : Fn BB 8 [.agg [.nils]] ((([] : List zXN)).length ≤ 1000 ∧ ∀ i,(nd ([] : List zXN) i).kids.length ≤ 1000) (.bool (zYY [])) :=
 Fn.wk (sRight []) fun _ _ => jJZ
instance sTidyNil : FnM BB 15 [.agg [.nils]] [] (zYL ([] : List zXN) = true) (.agg [.rd zXK (zZC [])]) [] :=
 FnM.wk (sTidy []) fun _ _ => jJZ
abbrev awA : zXN := ((1 : Int),(0 : Int),([97] : List UInt8),([] : List zbZ),([] : List UInt8),(0 : Int),([] : List Int))
abbrev awB : zXN := ((2 : Int),(0 : Int),([] : List UInt8),([] : List zbZ),([98] : List UInt8),(0 : Int),([] : List Int))
abbrev awT : List zXN := [((0 : Int),(0 : Int),([] : List UInt8),([] : List zbZ),([] : List UInt8),(-1 : Int),([1,2] : List Int)),((1 : Int),(0 : Int),([97] : List UInt8),([] : List zbZ),([] : List UInt8),(0 : Int),([] : List Int)),((2 : Int),(0 : Int),([] : List UInt8),([] : List zbZ),([98] : List UInt8),(0 : Int),([] : List Int))]
theorem aw_T : jCD (jCD (zw5 (zw5 [zcM] awA) awB) 0 0 ((zw5 [zcM] awA).length : Nat)) 0 0 (([zcM] : List zXN).length : Nat) = awT := by decide +kernel
theorem zrK : zYL (zw5 (zw5 [zcM] awA) awB) = true ∧ zYL (jCD (zw5 (zw5 [zcM] awA) awB) 0 0 ((zw5 [zcM] awA).length : Nat)) = true := by decide +kernel
theorem zg9 : zYL awT = true := by decide +kernel
theorem zyB : awT.length ≤ 1000 ∧ ∀ i : Int,(nd awT i).kids.length ≤ 1000 := by
 refine ⟨by decide,fun i => ?_⟩
 unfold nd
 rw [List.getD_eq_getElem?_getD]
 cases e : awT[i.toNat]? with
 | none => decide
 | some n =>
  have : ∀ n ∈ awT,n.kids.length ≤ 1000 := by decide +kernel
  exact this n (List.mem_of_getElem? e)
theorem jDC : zbL (fin awT).L = [0,1,2] := by
 have h : (jDE awT 30).map (fun y => zbL y.L) = some [0,1,2] := by decide +kernel
 cases e : jDE awT 30 with
 | none => rw [e] at h;cases h
 | some y => rw [e] at h;rw [zvZ e];exact Option.some.inj h
theorem zoL : zZC awT = awT := by
 unfold zZC
 rw [if_neg (by decide)]
 exact zqK (f := 30) (by decide +kernel)
theorem zzA : zYY awT = true := by decide +kernel
theorem zzT : zn4 awT ∧ zgU awT 1 = [((0 : Int),(0 : Int),([] : List UInt8),([] : List zbZ),([] : List UInt8),(-1 : Int),([] : List Int))] := zz5 (f := 30) (by decide +kernel)
instance sAwake : Fn BB 7 [] True (.bool true) := by
 refine Fn.intro (N := 62) [0,1,2,3,4] [] Try.call7 Try.func7 rfl rfl (by kernel_rfl) (fun hpre => ?_)
 repeat' ((conv => whnf);first|(with_reducible first|rfl|exact zXT|exact zXS)|exact True.intro|intro _|refine WA ?_ ?_|refine WF ?_|refine W1 rfl ?_ ?_|refine W2 rfl ?_ ?_|refine W3 rfl ?_ ?_|refine W4 ?_ ?_|refine W5 rfl ?_ ?_|refine W6 ?_ ?_|refine WN ?_|refine X1 (W1 rfl ?_ ?_)|refine X1 (W2 rfl ?_ ?_)|refine X2 (W7 rfl ?_ ?_)|refine X3 (W7 rfl ?_ ?_)|refine X4 (W7 rfl ?_ ?_)|refine X5 (W7 rfl ?_ ?_))
 all_goals (try (conv => whnf))
 all_goals (try first|exact obA|refine Ob.mk ?_)
 all_goals (try rw [aw_T])
 all_goals (try (first | exact zrK.1 | exact zrK.2 | exact zg9 | exact zyB | exact ⟨by decide,fun i => by unfold nd;simp;decide⟩ | exact ⟨zg9,by rw [zoL];exact zg9⟩ | exact zzT.1))
 all_goals (try (first | exact ⟨by decide,by decide⟩ | exact (by decide : awT.length ≤ 45)))
 all_goals
  have e : zgU awT (([zcM] : List zXN).length : Nat) = [((0 : Int),(0 : Int),([] : List UInt8),([] : List zbZ),([] : List UInt8),(-1 : Int),([] : List Int))] := zzT.2
  have e2 : zZC ([] : List zXN) = [zcM] := rfl
  rw [e,e2,zzA,zoL,zoL,jDC,zw1.2 (rfl : awT = awT)]
  decide +kernel
end Go.Vc

namespace Go.Vc
open Go.Proofs
set_option maxRecDepth 10000
set_option maxHeartbeats 8000000
theorem zjL {t : List zXN} {m : Int} (h : zc4 t m = true) (hm : m ≤ 45) : zYL t = true ∧ t.length ≤ 45 ∧ ∀ i,(nd t i).kids.length ≤ 1000 := by
 unfold zc4 at h
 rw [Bool.and_eq_true,decide_eq_true_eq,List.all_eq_true] at h
 have hn : ∀ n ∈ t,n.2.2.2.1.length ≤ 1000 ∧ n.kids.length ≤ 1000 := fun n hn => by
  have := h.2 n hn
  unfold zq0 zfK at this
  simp only [Bool.and_eq_true,decide_eq_true_eq] at this
  exact ⟨by have := this.2.1;omega,by have := this.1.2;omega⟩
 refine ⟨?_,by omega,fun i => ?_⟩
 ·unfold zYL
  rw [Bool.and_eq_true,decide_eq_true_eq,List.all_eq_true]
  refine ⟨by omega,fun n hn' => ?_⟩
  rw [Bool.and_eq_true,decide_eq_true_eq,decide_eq_true_eq]
  exact hn n hn'
 ·unfold nd
  rw [List.getD_eq_getElem?_getD]
  cases e : t[i.toNat]? with
  | none => decide
  | some n => exact (hn n (List.mem_of_getElem? e)).2
theorem zxO {t : List zXN} {m : Int} (h : zc4 t m = true) : (t.length : Int) ≤ m := by
 unfold zc4 at h
 rw [Bool.and_eq_true,decide_eq_true_eq] at h
 omega
instance sPRight (t : List zXN) (m : Int) : Fn BB 19 [.agg [.rd zXK t],.int .i64 m] (m ≤ 45) (.bool (zc4 t m && zYY t)) := by
 refine Fn.intro (N := 12) [0,1,2,4] [] Try.call19 Try.func19 rfl rfl (by kernel_rfl) (fun hpre => ?_)
 repeat' ((conv => whnf);first|(with_reducible first|rfl|exact zXT|exact zXS)|exact True.intro|intro _|refine WA ?_ ?_|refine WF ?_|refine W1 rfl ?_ ?_|refine W2 rfl ?_ ?_|refine W3 rfl ?_ ?_|refine W4 ?_ ?_|refine W5 rfl ?_ ?_|refine W6 ?_ ?_|refine WN ?_|refine X1 (W1 rfl ?_ ?_)|refine X1 (W2 rfl ?_ ?_)|refine X2 (W7 rfl ?_ ?_)|refine X3 (W7 rfl ?_ ?_)|refine X4 (W7 rfl ?_ ?_)|refine X5 (W7 rfl ?_ ?_))
 all_goals (try (conv => whnf))
 all_goals (try first|exact obA|refine Ob.mk ?_)
 all_goals (have h := zjL ‹zc4 t m = true› hpre;exact ⟨by omega,h.2.2⟩)
theorem jC6 {a : Bool} (h : (!a) = false) : a = true := by cases a <;> simp_all
theorem ztX (t : List zXN) : (fin t).I.length = t.length ∧ (fin t).O.length = t.length := have g := zr0 (zXL t) t.length
 ⟨g.lI,g.lO⟩
theorem zmJ {t u : List zXN} {f : Fo} (h : Laid t u f) (q : Nat) (hq : q < u.length) : (u.getD q zXK.dflt).kids.length ≤ u.length := by
 have hlen := h.len
 by_cases h0 : q = 0
 ·subst h0
  rw [h.kids]
  have := zg0 f 1;omega
 ·obtain ⟨a,g,hs2⟩ := zqP f (q - 1) (by omega)
  obtain ⟨⟨w,q1⟩,_,q3⟩ := zlF f (q - 1) 1 0 a g h.lay hs2
  rw [show 1 + (q - 1) = q by omega] at q1
  rw [q1]
  show (zcL (q + 1) g).length ≤ u.length
  have := zg0 g (q + 1);omega
theorem zvJ {u : List zXN} {b : Nat} (h : ∀ q,q < u.length → (u.getD q zXK.dflt).kids.length ≤ b) (i : Int) : (nd u i).kids.length ≤ b := by
 unfold nd
 rcases Nat.lt_or_ge i.toNat u.length with h1 | h1
 ·exact h _ h1
 ·rw [List.getD_eq_getElem?_getD,List.getElem?_eq_none h1];exact Nat.zero_le _
theorem zw7 {t : List zXN} (h : zYY t = true) (i j : Int) : (nd (zgU t i) j).kids.length ≤ (zgU t i).length := by
 have h0 := zg6 h
 have hne : t ≠ [] := fun e => by rw [e] at h0;exact absurd h0.1 (by decide)
 obtain ⟨f,s',d,e⟩ := zh4 hne
 obtain ⟨hl,hr⟩ := ze0 t f (mkN (t.getD 0 zXK.dflt) (-1)) rfl rfl
 rw [← e] at hl hr
 have hL : (fin t).L = (F0 f).lab := by rw [zgN];exact zkM hne d
 cases hf : zgS (zbL (fin t).L) i with
 | none =>
  have es : zgU t i = [zcM] := by unfold zgU;rw [hf]
  rw [es]
  exact zvJ (zmJ zh3) j
 | some k =>
  have es : zgU t i = zjV (zZC t) k := by unfold zgU;rw [hf]
  obtain ⟨hk,hki⟩ := zfP hf
  have hkl : k < (F0 f).size := by
   unfold zbL at hk
   rw [List.length_map,hL,zaX] at hk;exact hk
  obtain ⟨a,g,hs⟩ := zqP (F0 f) k hkl
  rw [es]
  exact zvJ (zmJ (zi1 hl hs).1) j
def zp7 (I O : List Int) (i : Int) (k : Nat) : Nat := if 0 ≤ i ∧ i < I.length then ((List.range k).filter fun v => zr5 I O v i.toNat).length else 0
theorem jBA (I O : List Int) (i : Int) (k : Nat) : zp7 I O i k ≤ k := by
 unfold zp7
 split
 ·exact Nat.le_trans (List.length_filter_le _ _) (by simp)
 ·omega
theorem zt3 {I O : List Int} {i : Int} (h : ¬ (0 ≤ i ∧ i < I.length)) (k : Nat) : zp7 I O i k = 0 := if_neg h
theorem zmN {I O : List Int} {i : Int} (h : 0 ≤ i ∧ i < I.length) (k : Nat) : zp7 I O i (k + 1) = zp7 I O i k + (if zr5 I O k i.toNat = true then 1 else 0) := by
 unfold zp7
 rw [if_pos h,if_pos h,List.range_succ,List.filter_append,List.length_append]
 by_cases q : zr5 I O k i.toNat = true
 ·simp [q]
 ·simp [q]
theorem zcP {l : List Int} {k : Nat} (h : k < l.length) (d e : Int) : l.getD k d = l.getD k e := by
 rw [List.getD_eq_getElem?_getD,List.getD_eq_getElem?_getD,List.getElem?_eq_getElem h];rfl
theorem zyJ {t : List zXN} (i : Int) {k : Nat} (h : k = (fin t).I.length) : zp7 (fin t).I (fin t).O i k = if 0 ≤ i ∧ i < t.length then jBH t i.toNat else 0 := by
 subst h
 unfold zp7 jBH
 rw [(ztX t).1]
instance sSubs (t : List zXN) (i : Int) : Fn BB 5 [.agg [.rd zXK t],.int .i64 i] True (.bool true) := by
 refine Fn.intro (N := 63) [0,1,2,4,5,6,7,8,9,12,23,24,25,41] [] Try.call5 Try.func5 rfl rfl (by kernel_rfl) (fun hpre => ?_)
 repeat' ((conv => whnf);first|(with_reducible first|rfl|exact zXT|exact zXS)|exact True.intro|intro _|refine WA ?_ ?_|refine WF ?_|refine W1 rfl ?_ ?_|refine W2 rfl ?_ ?_|refine W3 rfl ?_ ?_|refine W4 ?_ ?_|refine W5 rfl ?_ ?_|refine W6 ?_ ?_|refine WN ?_|refine X1 (W1 rfl ?_ ?_)|refine X1 (W2 rfl ?_ ?_)|refine X2 (W7 rfl ?_ ?_)|refine X3 (W7 rfl ?_ ?_)|refine X4 (W7 rfl ?_ ?_)|refine X5 (W7 rfl ?_ ?_))
 all_goals (try (conv => whnf))
 all_goals (try first|exact obA|refine Ob.mk ?_)
 all_goals (have hh := jC6 ‹(!(zc4 t 30 && zYY t)) = false›;rw [Bool.and_eq_true] at hh)
 all_goals (have h1 := zjL hh.1 (by decide);have hs := zz3 hh.2 i;have hl := ztX t;have ht := zxO hh.1)
 all_goals (first | exact jAK h1.1 h1.2.1 | exact h1.2.1 | skip)
 refine LoopStop.mk (α := Nat) (fun k => [(6,.int .i64 (1 + zp7 (fin t).I (fin t).O i k : Nat)),(24,.int .i64 k)]) (fun _ => []) 20 (fun k => k ≤ (fin t).I.length) (fun k => (fin t).I.length - k) 0 (Nat.zero_le _) ?_ (fun k hk => ?_)
 ·repeat' ((conv => whnf);first|(with_reducible first|rfl|exact zXT|exact zXS)|exact True.intro|intro _|refine WA ?_ ?_|refine WF ?_|refine W1 rfl ?_ ?_|refine W2 rfl ?_ ?_|refine W3 rfl ?_ ?_|refine W4 ?_ ?_|refine W5 rfl ?_ ?_|refine W6 ?_ ?_|refine WN ?_|refine X1 (W1 rfl ?_ ?_)|refine X1 (W2 rfl ?_ ?_)|refine X2 (W7 rfl ?_ ?_)|refine X3 (W7 rfl ?_ ?_)|refine X4 (W7 rfl ?_ ?_)|refine X5 (W7 rfl ?_ ?_))
  all_goals (try (conv => whnf))
  all_goals (try first|exact obA|refine Ob.mk ?_)
  show ((1 : Nat) : Int) = _
  congr 1
  unfold zp7
  split <;> rfl
 ·have hc := jBA (fin t).I (fin t).O i k
  repeat' ((conv => whnf);first|(with_reducible first|rfl|exact zXT|exact zXS)|exact True.intro|intro _|refine WA ?_ ?_|refine WF ?_|refine W1 rfl ?_ ?_|refine W2 rfl ?_ ?_|refine W3 rfl ?_ ?_|refine W4 ?_ ?_|refine W5 rfl ?_ ?_|refine W6 ?_ ?_|refine WN ?_|refine X1 (W1 rfl ?_ ?_)|refine X1 (W2 rfl ?_ ?_)|refine X2 (W7 rfl ?_ ?_)|refine X3 (W7 rfl ?_ ?_)|refine X4 (W7 rfl ?_ ?_)|refine X5 (W7 rfl ?_ ?_))
  all_goals (try (conv => whnf))
  all_goals (try first|exact obA|refine Ob.mk ?_)
  all_goals (try simp only [ZA,ZB,ZC,ZD,ZE,ZF,ZG,ZH,ZI,ZJ,ZK,ZL,ZM,ZN,ZO,Int.toNat_natCast,UInt8.ofNat_toNat,cast_eq] at *)
  all_goals (try omega)
  ·refine Rnd.mk ⟨k + 1,by omega,by omega,?_⟩
   have hb := ‹(i ≥ 0 ∧ i < ((fin t).I.length : Int)) ∧ _›
   have hi : 0 ≤ i ∧ i < (fin t).I.length := ⟨hb.1.1,hb.1.2⟩
   have e : zp7 (fin t).I (fin t).O i (k + 1) = zp7 (fin t).I (fin t).O i k + 1 := by
    rw [zmN hi,if_pos]
    unfold zr5
    rw [zcP (l := (fin t).I) (k := k) (by omega) (-1) 0,zcP (l := (fin t).I) (k := i.toNat) (by omega) (-1) 0,zcP (l := (fin t).O) (k := k) (by omega) (-1) 0,zcP (l := (fin t).O) (k := i.toNat) (by omega) (-1) 0]
    rw [decide_eq_true hb.2.1.1,decide_eq_true hb.2.1.2,decide_eq_true hb.2.2.1,decide_eq_true hb.2.2.2];rfl
   rw [e]
   repeat' ((conv => whnf);first|(with_reducible first|rfl|exact zXT|exact zXS)|exact True.intro|intro _|refine WA ?_ ?_|refine WF ?_|refine W1 rfl ?_ ?_|refine W2 rfl ?_ ?_|refine W3 rfl ?_ ?_|refine W4 ?_ ?_|refine W5 rfl ?_ ?_|refine W6 ?_ ?_|refine WN ?_|refine X1 (W1 rfl ?_ ?_)|refine X1 (W2 rfl ?_ ?_)|refine X2 (W7 rfl ?_ ?_)|refine X3 (W7 rfl ?_ ?_)|refine X4 (W7 rfl ?_ ?_)|refine X5 (W7 rfl ?_ ?_))
   all_goals (try (conv => whnf))
   all_goals (try first|exact obA|refine Ob.mk ?_)
   all_goals (try omega)
  ·refine Rnd.mk ⟨k + 1,by omega,by omega,?_⟩
   have e : zp7 (fin t).I (fin t).O i (k + 1) = zp7 (fin t).I (fin t).O i k := by
    by_cases hi : 0 ≤ i ∧ i < (fin t).I.length
    ·rw [zmN hi,if_neg,Nat.add_zero]
     unfold zr5
     rw [zcP (l := (fin t).I) (k := k) (by omega) (-1) 0,zcP (l := (fin t).I) (k := i.toNat) (by omega) (-1) 0,zcP (l := (fin t).O) (k := k) (by omega) (-1) 0,zcP (l := (fin t).O) (k := i.toNat) (by omega) (-1) 0]
     have hb := ‹(decide (i ≥ 0) && _ && _) = false›
     rw [decide_eq_true hi.1,decide_eq_true hi.2] at hb
     intro q
     rw [Bool.true_and,Bool.true_and,q] at hb
     cases hb
    ·rw [zt3 hi,zt3 hi]
   rw [e]
   repeat' ((conv => whnf);first|(with_reducible first|rfl|exact zXT|exact zXS)|exact True.intro|intro _|refine WA ?_ ?_|refine WF ?_|refine W1 rfl ?_ ?_|refine W2 rfl ?_ ?_|refine W3 rfl ?_ ?_|refine W4 ?_ ?_|refine W5 rfl ?_ ?_|refine W6 ?_ ?_|refine WN ?_|refine X1 (W1 rfl ?_ ?_)|refine X1 (W2 rfl ?_ ?_)|refine X2 (W7 rfl ?_ ?_)|refine X3 (W7 rfl ?_ ?_)|refine X4 (W7 rfl ?_ ?_)|refine X5 (W7 rfl ?_ ?_))
   all_goals (try (conv => whnf))
   all_goals (try first|exact obA|refine Ob.mk ?_)
   all_goals (try omega)
  all_goals (have hk2 := zyJ (t := t) i (k := k) (by omega);have hs3 : (zgU t i).length = 1 + zp7 (fin t).I (fin t).O i k := by (rw [hk2];exact hs.2.2))
  ·exact ⟨by omega,fun j => by have := zw7 hh.2 i j;omega⟩
  all_goals
   refine ⟨⟨⟨hs.1,by omega⟩,?_⟩,True.intro⟩
   unfold zbL
   rw [List.length_map,hs.2.1,hs3]
end Go.Vc

namespace Go.Vc
open Go.Proofs
theorem jAX (W : World) (hsh : W.ShapedOpen Try.prog) : BB.G fun b => W.heap[b]? := True.intro
end Go.Vc
