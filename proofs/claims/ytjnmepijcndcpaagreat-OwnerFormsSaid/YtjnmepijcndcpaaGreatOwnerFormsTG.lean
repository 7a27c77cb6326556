/- A part of the proof: lemmas and walks that the last text of the claim joins; no condition. -/
import Derived.Test.YtjnmepijcndcpaaGreatOwnerFormsTF
set_option linter.unusedVariables false
set_option linter.unusedSimpArgs false
set_option maxHeartbeats 8000000
namespace Go.Vc
open Go.Proofs
set_option maxRecDepth 10000
set_option maxHeartbeats 4000000
def fin (l : List qAE) : St := qQZ (qAB l) l.length
def qA7 (l : List Nat) : List Int := List.map (fun u : Nat => (u : Int)) l
theorem qG7 (l : List Nat) (v : Nat) : qA7 (l ++ [v]) = qA7 l ++ [(v : Int)] := by unfold qA7;rw [List.map_append];rfl
def stA (l : List qAE) (i : Nat) : St := (st0 l.length).run ((evs l).take i)
theorem qw1 (l : List qAE) : stA l 0 = st0 l.length := rfl
theorem qWR (l : List qAE) : stA l (evs l).length = fin l := by unfold stA fin qQZ evs;rw [List.take_length]
theorem qT3 (l : List qAE) (i : Nat) (h : i < (evs l).length) : stA l (i + 1) = (stA l i).step ((evs l).getD i (0,0,0,false)) := by
 unfold stA
 rw [List.take_succ_eq_append_getElem h,qIJ]
 have : (evs l).getD i (0,0,0,false) = (evs l)[i] := by simp [List.getD,List.getElem?_eq_getElem h]
 rw [this];rfl
theorem qU8 {n : Nat} : ∀ {l : List Ev} {x : St} (i : Nat),qH5 n x l → qH5 n x (l.take i) := by
 intro l
 induction l with
 | nil => intro x i h;simp;exact h
 | cons e l ih =>
  intro x i h
  cases i with
  | zero => exact trivial
  | succ i => exact ⟨h.1,ih i h.2⟩
theorem qaT {n : Nat} : ∀ {l : List Ev} {x : St} (i : Nat) (d : Ev),qH5 n x l → i < l.length → qe9 n (x.run (l.take i)) (l.getD i d) := by
 intro l
 induction l with
 | nil => intro x i d h hi;cases hi
 | cons e l ih =>
  intro x i d h hi
  cases i with
  | zero => exact h.1
  | succ i => exact ih i d h.2 (by simpa using hi)
theorem qUP (l : List qAE) (i : Nat) : Good l.length (stA l i) := (qeL _).run (qU8 i (qP8 (qAB l) l.length).1)
theorem qi1 (l : List qAE) (i : Nat) (h : i < (evs l).length) : qe9 l.length (stA l i) ((evs l).getD i (0,0,0,false)) := qaT i _ (qP8 (qAB l) l.length).1 h
theorem qxD (l : List qAE) (i : Nat) (h : i ≤ (evs l).length) : (stA l i).m = i := by
 unfold stA
 rw [qg6,List.length_take]
 show 0 + min i _ = i
 omega
theorem qcP (x : St) (e : Ev) : (x.step e).L = if e.2.2.2 = true then x.L else x.L ++ [e.1] := by unfold St.step;split <;> rfl
instance oList (l : List qAE) : Fn BB 64 [.agg [.rd qAC l]] (l.length ≤ 45) (.rd qAI (qA7 (fin l).L)) := by
 refine Fn.intro (N := 17) [0,1,2,3,4,6,7,10] [] Tryz.call64 Tryz.func64 rfl rfl (by kernel_rfl) (fun hpre => ?_)
 repeat' ((conv => whnf);first|(with_reducible first|rfl|exact qAH|exact qAG)|exact True.intro|intro _|refine WA ?_ ?_|refine WF ?_|refine W1 rfl ?_ ?_|refine W2 rfl ?_ ?_|refine W3 rfl ?_ ?_|refine W4 ?_ ?_|refine W5 rfl ?_ ?_|refine W6 ?_ ?_|refine WN ?_|refine X1 (W1 rfl ?_ ?_)|refine X1 (W2 rfl ?_ ?_)|refine X2 (W7 rfl ?_ ?_)|refine X3 (W7 rfl ?_ ?_)|refine X4 (W7 rfl ?_ ?_)|refine X5 (W7 rfl ?_ ?_))
 all_goals (try (conv => whnf))
 all_goals (try first|exact obA|refine Ob.mk ?_)
 have hEl : (evs l).length ≤ 90 := by
  have := qQ8 (qAB l) l.length
  show (qM0 (qAB l) l.length).length ≤ 90
  omega
 have hlen : ∀ i,(stA l i).L.length ≤ 45 := fun i => by
  have g := qUP l i
  have := qEX g.nod g.lt
  omega
 refine RangeStop.mk (α := Nat) ⟨hpre⟩ rfl (fun i => [(1,.box [.own 20]),(20,.own qAI (qA7 (stA l i).L))]) 30 (fun i k => k = i) 0 rfl ?_ (fun i k hC hi => ?_) (fun k hC => ?_)
 ·all_goals exact vcA
 ·subst hC
  have hs := qT3 l k hi
  have hl := hlen k
  generalize he : (evs l).getD k (0,0,0,false) = e at *
  obtain ⟨v,up,c,lf⟩ := e
  cases lf
  ·repeat' ((conv => whnf);first|(with_reducible first|rfl|exact qAH|exact qAG)|exact True.intro|intro _|refine WA ?_ ?_|refine WF ?_|refine W1 rfl ?_ ?_|refine W2 rfl ?_ ?_|refine W3 rfl ?_ ?_|refine W4 ?_ ?_|refine W5 rfl ?_ ?_|refine W6 ?_ ?_|refine WN ?_|refine X1 (W1 rfl ?_ ?_)|refine X1 (W2 rfl ?_ ?_)|refine X2 (W7 rfl ?_ ?_)|refine X3 (W7 rfl ?_ ?_)|refine X4 (W7 rfl ?_ ?_)|refine X5 (W7 rfl ?_ ?_))
   all_goals (try (conv => whnf))
   all_goals (try first|exact obA|refine Ob.mk ?_)
   all_goals (try (exfalso;have h := ‹(!false) = false›;cases h;done))
   ·simp only [cast_eq];unfold qA7;simp;omega
   ·refine Rnd.mk ⟨k + 1,rfl,?_⟩
    repeat' ((conv => whnf);first|(with_reducible first|rfl|exact qAH|exact qAG)|exact True.intro|intro _|refine WA ?_ ?_|refine WF ?_|refine W1 rfl ?_ ?_|refine W2 rfl ?_ ?_|refine W3 rfl ?_ ?_|refine W4 ?_ ?_|refine W5 rfl ?_ ?_|refine W6 ?_ ?_|refine WN ?_|refine X1 (W1 rfl ?_ ?_)|refine X1 (W2 rfl ?_ ?_)|refine X2 (W7 rfl ?_ ?_)|refine X3 (W7 rfl ?_ ?_)|refine X4 (W7 rfl ?_ ?_)|refine X5 (W7 rfl ?_ ?_))
    all_goals (try (conv => whnf))
    all_goals (try first|exact obA|refine Ob.mk ?_)
    rw [hs,qcP,if_neg (by simp),qG7]
    try simp only [cast_eq]
  ·repeat' ((conv => whnf);first|(with_reducible first|rfl|exact qAH|exact qAG)|exact True.intro|intro _|refine WA ?_ ?_|refine WF ?_|refine W1 rfl ?_ ?_|refine W2 rfl ?_ ?_|refine W3 rfl ?_ ?_|refine W4 ?_ ?_|refine W5 rfl ?_ ?_|refine W6 ?_ ?_|refine WN ?_|refine X1 (W1 rfl ?_ ?_)|refine X1 (W2 rfl ?_ ?_)|refine X2 (W7 rfl ?_ ?_)|refine X3 (W7 rfl ?_ ?_)|refine X4 (W7 rfl ?_ ?_)|refine X5 (W7 rfl ?_ ?_))
   all_goals (try (conv => whnf))
   all_goals (try first|exact obA|refine Ob.mk ?_)
   all_goals (try (exfalso;have h := ‹(!true) = true›;cases h;done))
   refine Rnd.mk ⟨k + 1,rfl,?_⟩
   repeat' ((conv => whnf);first|(with_reducible first|rfl|exact qAH|exact qAG)|exact True.intro|intro _|refine WA ?_ ?_|refine WF ?_|refine W1 rfl ?_ ?_|refine W2 rfl ?_ ?_|refine W3 rfl ?_ ?_|refine W4 ?_ ?_|refine W5 rfl ?_ ?_|refine W6 ?_ ?_|refine WN ?_|refine X1 (W1 rfl ?_ ?_)|refine X1 (W2 rfl ?_ ?_)|refine X2 (W7 rfl ?_ ?_)|refine X3 (W7 rfl ?_ ?_)|refine X4 (W7 rfl ?_ ?_)|refine X5 (W7 rfl ?_ ?_))
   all_goals (try (conv => whnf))
   all_goals (try first|exact obA|refine Ob.mk ?_)
   rw [hs,qcP,if_pos rfl]
 ·subst hC
  rw [qWR]
  all_goals exact vcA
def flat (x : St) : List (Int × Int) := (List.range x.I.length).map fun u => (x.I.getD u (-1),x.O.getD u (-1))
theorem qCC (x : St) : (flat x).length = x.I.length := by unfold flat;simp
theorem flat_get (x : St) (u : Nat) (h : u < x.I.length) (d : Int × Int) : (flat x).getD u d = (x.I.getD u (-1),x.O.getD u (-1)) := by
 unfold flat;simp [List.getD,h]
theorem qNK {a b : List (Int × Int)} (hl : a.length = b.length) (h : ∀ u < a.length,∀ d,a.getD u d = b.getD u d) : a = b := by
 apply List.ext_getElem hl
 intro i h1 h2
 have := h i h1 (0,0)
 simpa [List.getD,List.getElem?_eq_getElem h1,List.getElem?_eq_getElem h2] using this
theorem qY4 {n : Nat} {x : St} (g : Good n x) {v : Nat} {up : Int} {c : Nat} {lf : Bool} (h : qe9 n x (v,up,c,lf)) :
  flat (x.step (v,up,c,lf)) = (flat x).set v (if lf = true then (((flat x).getD v (0,0)).1,(x.m : Int)) else ((x.m : Int), -1)) := by
 have hI := g.lI
 have hO := g.lO
 cases lf with
 | true =>
  have h2 := h.2
  rw [if_pos rfl] at h2
  have hv : v ∈ x.P := List.mem_of_getLast? h2
  rw [g.stk,List.mem_filter] at hv
  have hn := g.lt v hv.1
  have e0 : x.step (v,up,c,true) = { x with P := x.P.dropLast,O := x.O.set v (x.m : Int),m := x.m + 1 } := rfl
  rw [e0,if_pos rfl]
  refine qNK (by rw [qCC,List.length_set,qCC]) fun u hu d => ?_
  rw [qCC] at hu
  dsimp only at hu
  rw [flat_get _ _ (by exact hu),qAZ (flat x),qCC,flat_get x u hu,flat_get x v (by rw [hI];exact hn)]
  dsimp only
  rw [qAZ x.O]
  by_cases q : v = u
  ·subst q;rw [if_pos ⟨rfl,by omega⟩,if_pos ⟨rfl,by omega⟩]
  ·rw [if_neg (fun z => q z.1),if_neg (fun z => q z.1)]
 | false =>
  have h2 := h.2
  rw [if_neg (by simp)] at h2
  have e0 : x.step (v,up,c,false) = { x with L := x.L ++ [v],P := x.P ++ [v],I := x.I.set v (x.m : Int),m := x.m + 1 } := rfl
  rw [e0,if_neg (by simp)]
  refine qNK (by simp [qCC]) fun u hu d => ?_
  rw [qCC] at hu
  dsimp only at hu
  rw [List.length_set] at hu
  have h2 : v < n ∧ v ∉ x.L := h2
  rw [flat_get _ _ (by rw [List.length_set];exact hu),qAZ (flat x),qCC,flat_get x u hu]
  dsimp only
  rw [qAZ x.I]
  by_cases q : v = u
  ·subst q;rw [if_pos ⟨rfl,by omega⟩,if_pos ⟨rfl,by omega⟩,(g.out v h2.2).2]
  ·rw [if_neg (fun z => q z.1),if_neg (fun z => q z.1)]
theorem qT1 {α : Type} {a b : α} (i n : Nat) (h : i < n) : (List.replicate i a ++ List.replicate (n - i) b).set i a = List.replicate (i + 1) a ++ List.replicate (n - (i + 1)) b := by
 rw [List.set_append_right _ _ (by simp),List.length_replicate,Nat.sub_self]
 obtain ⟨m,hm⟩ : ∃ m,n - i = m + 1 := ⟨n - i - 1,by omega⟩
 rw [hm,List.replicate_succ,List.set_cons_zero,show n - (i + 1) = m by omega,List.replicate_succ']
 simp
theorem qbJ (l : List qAE) : flat (stA l 0) = List.replicate l.length ((-1, -1) : Int × Int) := by
 rw [qw1]
 refine qNK (by rw [qCC];simp [st0]) fun u hu d => ?_
 rw [qCC] at hu
 rw [flat_get _ _ hu]
 have hu : u < l.length := by simpa [st0] using hu
 show ((List.replicate l.length (-1)).getD u (-1),(List.replicate l.length (-1)).getD u (-1)) = _
 rw [qK1,List.getD_eq_getElem?_getD,List.getElem?_replicate,if_pos hu];rfl
instance oMarks (l : List qAE) : Fn BB 62 [.agg [.rd qAC l]] (l.length ≤ 45) (.rd .cpx (flat (fin l))) := by
  refine Fn.intro (N := 45) [0,1,2,3,4,5,11,12,13,20,21,23] [(10,[1,0,1,1,0,1,1,1,1,0,1,1,3,3])] Tryz.call62 Tryz.func62 rfl rfl (by kernel_rfl) (fun hpre => ?_)
  repeat' ((conv => whnf);first|(with_reducible first|rfl|exact qAH|exact qAG)|exact True.intro|intro _|refine WA ?_ ?_|refine WF ?_|refine W1 rfl ?_ ?_|refine W2 rfl ?_ ?_|refine W3 rfl ?_ ?_|refine W4 ?_ ?_|refine W5 rfl ?_ ?_|refine W6 ?_ ?_|refine WN ?_|refine X1 (W1 rfl ?_ ?_)|refine X1 (W2 rfl ?_ ?_)|refine X2 (W7 rfl ?_ ?_)|refine X3 (W7 rfl ?_ ?_)|refine X4 (W7 rfl ?_ ?_)|refine X5 (W7 rfl ?_ ?_))
  all_goals (try (conv => whnf))
  all_goals (try first|exact obA|refine Ob.mk ?_)
  rw [show ((l.length : Int)).toNat = l.length by omega]
  refine LoopStop.mk (α := Nat) (fun i => [(12,.int .i64 i)]) (fun i => [(2,.box [.own 1]),(1,.own .cpx (List.replicate i ((-1, -1) : Int × Int) ++ List.replicate (l.length - i) (0,0)))]) 20 (fun i => i ≤ l.length) (fun i => l.length - i) 0 (Nat.zero_le _) ?_ (fun i hi => ?_)
  · all_goals exact vcA
  · repeat' ((conv => whnf);first|(with_reducible first|rfl|exact qAH|exact qAG)|exact True.intro|intro _|refine WA ?_ ?_|refine WF ?_|refine W1 rfl ?_ ?_|refine W2 rfl ?_ ?_|refine W3 rfl ?_ ?_|refine W4 ?_ ?_|refine W5 rfl ?_ ?_|refine W6 ?_ ?_|refine WN ?_|refine X1 (W1 rfl ?_ ?_)|refine X1 (W2 rfl ?_ ?_)|refine X2 (W7 rfl ?_ ?_)|refine X3 (W7 rfl ?_ ?_)|refine X4 (W7 rfl ?_ ?_)|refine X5 (W7 rfl ?_ ?_))
    all_goals (try (conv => whnf))
    all_goals (try first|exact obA|refine Ob.mk ?_)
    all_goals (try simp only [Int.toNat_natCast,List.length_replicate] at *)
    all_goals (try (have hlt : i < l.length := by have h := of_decide_eq_true ‹decide ((i : Int) < (l.length : Int)) = true›;omega))
    · simp only [List.length_append,List.length_replicate];omega
    · simp only [List.length_append,List.length_replicate];omega
    · refine Rnd.mk ⟨i + 1,⟨by omega,by omega,?_⟩⟩
      repeat' ((conv => whnf);first|(with_reducible first|rfl|exact qAH|exact qAG)|exact True.intro|intro _|refine WA ?_ ?_|refine WF ?_|refine W1 rfl ?_ ?_|refine W2 rfl ?_ ?_|refine W3 rfl ?_ ?_|refine W4 ?_ ?_|refine W5 rfl ?_ ?_|refine W6 ?_ ?_|refine WN ?_|refine X1 (W1 rfl ?_ ?_)|refine X1 (W2 rfl ?_ ?_)|refine X2 (W7 rfl ?_ ?_)|refine X3 (W7 rfl ?_ ?_)|refine X4 (W7 rfl ?_ ?_)|refine X5 (W7 rfl ?_ ?_))
      all_goals (try (conv => whnf))
      all_goals (try first|exact obA|refine Ob.mk ?_)
      all_goals (try rfl)
      rw [qT1 i l.length hlt]
    · have hin : i = l.length := by have h := of_decide_eq_false ‹decide ((i : Int) < (l.length : Int)) = false›;omega
      subst hin
      have hEl : (evs l).length ≤ 90 := by
        have := qQ8 (qAB l) l.length
        show (qM0 (qAB l) l.length).length ≤ 90
        omega
      refine RangeStop.mk (α := Nat) ⟨hpre⟩ rfl (fun i => [(2,.box [.own 1]),(1,.own .cpx (flat (stA l i)))]) 40 (fun i k => k = i) 0 rfl ?_ (fun i k hC hi => ?_) (fun k hC => ?_)
      · repeat' ((conv => whnf);first|(with_reducible first|rfl|exact qAH|exact qAG)|exact True.intro|intro _|refine WA ?_ ?_|refine WF ?_|refine W1 rfl ?_ ?_|refine W2 rfl ?_ ?_|refine W3 rfl ?_ ?_|refine W4 ?_ ?_|refine W5 rfl ?_ ?_|refine W6 ?_ ?_|refine WN ?_|refine X1 (W1 rfl ?_ ?_)|refine X1 (W2 rfl ?_ ?_)|refine X2 (W7 rfl ?_ ?_)|refine X3 (W7 rfl ?_ ?_)|refine X4 (W7 rfl ?_ ?_)|refine X5 (W7 rfl ?_ ?_))
        all_goals (try (conv => whnf))
        all_goals (try first|exact obA|refine Ob.mk ?_)
        all_goals (try rfl)
        · show Chunk.own Ty.cpx _ = Chunk.own Ty.cpx _
          rw [Nat.sub_self,List.replicate_zero,List.append_nil,qbJ]
      · subst hC
        have hs := qT3 l k hi
        have hv := qi1 l k hi
        have g := qUP l k
        have hm := qxD l k (Nat.le_of_lt hi)
        generalize he : (evs l).getD k (0,0,0,false) = e at *
        obtain ⟨v,up,c,lf⟩ := e
        have hst := qY4 g hv
        have hcm : c = (stA l k).m := hv.1
        have hfl : (flat (stA l k)).length = l.length := by rw [qCC];exact g.lI
        cases lf
        · have hn : v < l.length := hv.2.1
          repeat' ((conv => whnf);first|(with_reducible first|rfl|exact qAH|exact qAG)|exact True.intro|intro _|refine WA ?_ ?_|refine WF ?_|refine W1 rfl ?_ ?_|refine W2 rfl ?_ ?_|refine W3 rfl ?_ ?_|refine W4 ?_ ?_|refine W5 rfl ?_ ?_|refine W6 ?_ ?_|refine WN ?_|refine X1 (W1 rfl ?_ ?_)|refine X1 (W2 rfl ?_ ?_)|refine X2 (W7 rfl ?_ ?_)|refine X3 (W7 rfl ?_ ?_)|refine X4 (W7 rfl ?_ ?_)|refine X5 (W7 rfl ?_ ?_))
          all_goals (try (conv => whnf))
          all_goals (try first|exact obA|refine Ob.mk ?_)
          all_goals (try simp only [Int.toNat_natCast] at *)
          all_goals (try (rw [hfl]))
          all_goals (try omega)
          refine Rnd.mk ⟨k + 1,rfl,?_⟩
          repeat' ((conv => whnf);first|(with_reducible first|rfl|exact qAH|exact qAG)|exact True.intro|intro _|refine WA ?_ ?_|refine WF ?_|refine W1 rfl ?_ ?_|refine W2 rfl ?_ ?_|refine W3 rfl ?_ ?_|refine W4 ?_ ?_|refine W5 rfl ?_ ?_|refine W6 ?_ ?_|refine WN ?_|refine X1 (W1 rfl ?_ ?_)|refine X1 (W2 rfl ?_ ?_)|refine X2 (W7 rfl ?_ ?_)|refine X3 (W7 rfl ?_ ?_)|refine X4 (W7 rfl ?_ ?_)|refine X5 (W7 rfl ?_ ?_))
          all_goals (try (conv => whnf))
          all_goals (try first|exact obA|refine Ob.mk ?_)
          rw [hs,hst,if_neg (by simp),hcm]
        · have hn : v < l.length := by
            have h2 := hv.2
            rw [if_pos rfl] at h2
            have h3 : v ∈ (stA l k).P := List.mem_of_getLast? h2
            rw [g.stk,List.mem_filter] at h3
            exact g.lt v h3.1
          repeat' ((conv => whnf);first|(with_reducible first|rfl|exact qAH|exact qAG)|exact True.intro|intro _|refine WA ?_ ?_|refine WF ?_|refine W1 rfl ?_ ?_|refine W2 rfl ?_ ?_|refine W3 rfl ?_ ?_|refine W4 ?_ ?_|refine W5 rfl ?_ ?_|refine W6 ?_ ?_|refine WN ?_|refine X1 (W1 rfl ?_ ?_)|refine X1 (W2 rfl ?_ ?_)|refine X2 (W7 rfl ?_ ?_)|refine X3 (W7 rfl ?_ ?_)|refine X4 (W7 rfl ?_ ?_)|refine X5 (W7 rfl ?_ ?_))
          all_goals (try (conv => whnf))
          all_goals (try first|exact obA|refine Ob.mk ?_)
          all_goals (try simp only [Int.toNat_natCast] at *)
          all_goals (try (rw [hfl]))
          all_goals (try omega)
          refine Rnd.mk ⟨k + 1,rfl,?_⟩
          repeat' ((conv => whnf);first|(with_reducible first|rfl|exact qAH|exact qAG)|exact True.intro|intro _|refine WA ?_ ?_|refine WF ?_|refine W1 rfl ?_ ?_|refine W2 rfl ?_ ?_|refine W3 rfl ?_ ?_|refine W4 ?_ ?_|refine W5 rfl ?_ ?_|refine W6 ?_ ?_|refine WN ?_|refine X1 (W1 rfl ?_ ?_)|refine X1 (W2 rfl ?_ ?_)|refine X2 (W7 rfl ?_ ?_)|refine X3 (W7 rfl ?_ ?_)|refine X4 (W7 rfl ?_ ?_)|refine X5 (W7 rfl ?_ ?_))
          all_goals (try (conv => whnf))
          all_goals (try first|exact obA|refine Ob.mk ?_)
          rw [hs,hst,hcm]
          try rfl
      · subst hC
        rw [qWR]
        all_goals exact vcA
instance oInside (a b c d : Int) : Fn BB 66 [.cpx a b,.cpx c d] (-1 ≤ a ∧ a ≤ 95 ∧ -1 ≤ b ∧ b ≤ 95 ∧ -1 ≤ c ∧ c ≤ 95 ∧ -1 ≤ d ∧ d ≤ 95) (.bool (decide (0 ≤ a) && decide (0 ≤ c) && (decide (c < a) && decide (b < d)))) := by
 refine Fn.intro (N := 25) [0,1,4,5,13] [] Tryz.call66 Tryz.func66 rfl rfl (by kernel_rfl) (fun hpre => ?_)
 repeat' ((conv => whnf);first|(with_reducible first|rfl|exact qAH|exact qAG)|exact True.intro|intro _|refine WA ?_ ?_|refine WF ?_|refine W1 rfl ?_ ?_|refine W2 rfl ?_ ?_|refine W3 rfl ?_ ?_|refine W4 ?_ ?_|refine W5 rfl ?_ ?_|refine W6 ?_ ?_|refine WN ?_|refine X1 (W1 rfl ?_ ?_)|refine X1 (W2 rfl ?_ ?_)|refine X2 (W7 rfl ?_ ?_)|refine X3 (W7 rfl ?_ ?_)|refine X4 (W7 rfl ?_ ?_)|refine X5 (W7 rfl ?_ ?_))
 all_goals (try (conv => whnf))
 all_goals (try first|exact obA|refine Ob.mk ?_)
 all_goals (try simp only [ZA,ZB,ZC,ZD,ZE,ZF,ZG,ZH,ZI,ZJ,ZK,ZL,ZM,ZN,ZO,Bool.and_eq_false_iff,Bool.or_eq_false_iff,ge_iff_le,gt_iff_lt,Int.toNat_natCast,UInt8.ofNat_toNat,cast_eq] at *)
 ·symm
  rw [Bool.eq_false_iff]
  intro h
  simp only [Bool.and_eq_true,decide_eq_true_eq] at h
  omega
 ·obtain ⟨h1,h2⟩ : 0 ≤ a ∧ 0 ≤ c := ‹_›
  rw [decide_eq_true h1,decide_eq_true h2]
  have e1 : decide (0 < a - c) = decide (c < a) := by rw [Bool.eq_iff_iff,decide_eq_true_eq,decide_eq_true_eq];omega
  have e2 : decide (b - d < 0) = decide (b < d) := by rw [Bool.eq_iff_iff,decide_eq_true_eq,decide_eq_true_eq];omega
  rw [e1,e2];rfl
end Go.Vc

namespace Go.Vc
open Go.Proofs
set_option maxRecDepth 10000
set_option maxHeartbeats 4000000
def qCJ (l : List qAE) (v : Int) : List Nat := (qM7 v (evs l) []).getD []
end Go.Vc

namespace Go.Vc
set_option autoImplicit false
def sI (I : List Int) : List Bool := I.map fun v => decide (0 ≤ v)
theorem qHP (I : List Int) (k m : Nat) : sI (I.set k (m : Int)) = (sI I).set k true := by
 unfold sI;rw [List.map_set,decide_eq_true (by omega : (0 : Int) ≤ (m : Int))]
theorem qlF (n : Nat) : sI (List.replicate n (-1)) = List.replicate n false := by
 unfold sI;rw [List.map_replicate];rfl
theorem qdH (I : List Int) (k : Nat) (h : k < I.length) : (sI I).getD k true = decide (0 ≤ I.getD k 0) := by
 unfold sI;simp [List.getD,h]
def dR (K : Nat → List Int) (x : St) (i j : Nat) : St := x.run (dfs K (sI x.I) i j x.m).1
variable {K : Nat → List Int}
theorem qN0 (x : St) (e : Ev) (l : List Ev) : x.run (e :: l) = (x.step e).run l := rfl
theorem qcR : ∀ (s : List Bool) (i j c : Nat) (x : St),sI x.I = s → x.m = c →
  sI (x.run (dfs K s i j c).1).I = (dfs K s i j c).2.1 ∧ (x.run (dfs K s i j c).1).m = (dfs K s i j c).2.2 := by
 refine qGS (K := K) ?_ ?_ ?_
 ·intro s i j c h x hs hm
  rw [qC2 h]
  exact ⟨hs,by show x.m + 1 = c + 1;rw [hm]⟩
 ·intro s i j c h hk ih x hs hm
  rw [qC4 h hk]
  exact ih x hs hm
 ·intro s i j c h hk i1 i2 x hs hm
  rw [qFE h hk]
  dsimp only
  rw [qN0,qIJ]
  have a := i1 (x.step (((K i).getD j 0).toNat,(i : Int),c,false)) (by show sI (x.I.set _ (x.m : Int)) = _;rw [qHP,hs]) (by show x.m + 1 = c + 1;rw [hm])
  exact i2 _ a.1 a.2
theorem qX1 {x : St} {i j : Nat} (h : ¬ j < (K i).length) : dR K x i j = x.step (i,0,x.m,true) := by
 unfold dR;rw [qC2 h];rfl
theorem qWG {x : St} {i j : Nat} (h : j < (K i).length) (hk : okK (sI x.I) ((K i).getD j 0) = false) : dR K x i j = dR K x i (j + 1) := by
 unfold dR;rw [qC4 h hk]
theorem qdN {x : St} {i j : Nat} (h : j < (K i).length) (hk : okK (sI x.I) ((K i).getD j 0) = true) :
    dR K x i j = dR K (dR K (x.step (((K i).getD j 0).toNat,(i : Int),x.m,false)) ((K i).getD j 0).toNat 0) i (j + 1) := by
  have hI : sI (x.step (((K i).getD j 0).toNat,(i : Int),x.m,false)).I = (sI x.I).set ((K i).getD j 0).toNat true := qHP ..
  have hm : (x.step (((K i).getD j 0).toNat,(i : Int),x.m,false)).m = x.m + 1 := rfl
  have a := qcR (K := K) _ ((K i).getD j 0).toNat 0 _ _ hI hm
  have e1 : dR K (x.step (((K i).getD j 0).toNat,(i : Int),x.m,false)) ((K i).getD j 0).toNat 0 =
      (x.step (((K i).getD j 0).toNat,(i : Int),x.m,false)).run (dfs K ((sI x.I).set ((K i).getD j 0).toNat true) ((K i).getD j 0).toNat 0 (x.m + 1)).1 := by
    unfold dR;rw [hI,hm]
  rw [e1]
  generalize hy : (x.step (((K i).getD j 0).toNat,(i : Int),x.m,false)).run (dfs K ((sI x.I).set ((K i).getD j 0).toNat true) ((K i).getD j 0).toNat 0 (x.m + 1)).1 = y at *
  unfold dR
  rw [a.1,a.2,qFE h hk]
  dsimp only
  rw [qN0,qIJ,hy]
theorem qfS {P : St → Nat → Nat → Prop} (he : ∀ x i j,¬ j < (K i).length → P x i j) (hb : ∀ x i j,j < (K i).length → okK (sI x.I) ((K i).getD j 0) = false → P x i (j + 1) → P x i j)
  (ho : ∀ x i j,j < (K i).length → okK (sI x.I) ((K i).getD j 0) = true → P (x.step (((K i).getD j 0).toNat,(i : Int),x.m,false)) ((K i).getD j 0).toNat 0 →
   P (dR K (x.step (((K i).getD j 0).toNat,(i : Int),x.m,false)) ((K i).getD j 0).toNat 0) i (j + 1) → P x i j) : ∀ x i j,P x i j := by
 have main : ∀ (s : List Bool) (i j c : Nat) (x : St),sI x.I = s → x.m = c → P x i j := by
  refine qGS (K := K) ?_ ?_ ?_
  ·intro s i j c h x hs hm;exact he x i j h
  ·intro s i j c h hk ih x hs hm;subst hs;exact hb x i j h hk (ih x rfl hm)
  ·intro s i j c h hk i1 i2 x hs hm
   subst hs;subst hm
   have hI : sI (x.step (((K i).getD j 0).toNat,(i : Int),x.m,false)).I = (sI x.I).set ((K i).getD j 0).toNat true := qHP ..
   have a := qcR (K := K) _ ((K i).getD j 0).toNat 0 (x.m + 1) (x.step (((K i).getD j 0).toNat,(i : Int),x.m,false)) hI rfl
   refine ho x i j h hk (i1 _ hI rfl) (i2 _ ?_ ?_)
   ·unfold dR;rw [hI];exact a.1
   ·unfold dR;rw [hI];exact a.2
 exact fun x i j => main _ i j _ x rfl rfl
theorem qcI : ∀ (x : St) (i j : Nat),(dR K x i j).m + 2 * unseen (sI (dR K x i j).I) ≤ x.m + 2 * unseen (sI x.I) + 1 ∧ (dR K x i j).I.length = x.I.length ∧ (dR K x i j).O.length = x.O.length ∧
  (dR K x i j).L.length + x.m ≤ x.L.length + (dR K x i j).m ∧ unseen (sI (dR K x i j).I) ≤ unseen (sI x.I) := by
 refine qfS (K := K) ?_ ?_ ?_
 ·intro x i j h
  rw [qX1 h]
  refine ⟨?_,rfl,List.length_set ..,?_,Nat.le_refl _⟩
  ·show x.m + 1 + _ ≤ _;exact Nat.le_of_eq (by show x.m + 1 + 2 * unseen (sI x.I) = _;omega)
  ·show x.L.length + x.m ≤ x.L.length + (x.m + 1);omega
 ·intro x i j h hk ih
  rw [qWG h hk];exact ih
 ·intro x i j h hk i1 i2
  rw [qdN h hk]
  have hI : sI (x.step (((K i).getD j 0).toNat,(i : Int),x.m,false)).I = (sI x.I).set ((K i).getD j 0).toNat true := qHP ..
  have hu := qA9 (qBL hk).2.2
  have hm : (x.step (((K i).getD j 0).toNat,(i : Int),x.m,false)).m = x.m + 1 := rfl
  have hL : (x.step (((K i).getD j 0).toNat,(i : Int),x.m,false)).L.length = x.L.length + 1 := by
   show (x.L ++ [_]).length = _;simp
  have hIl : (x.step (((K i).getD j 0).toNat,(i : Int),x.m,false)).I.length = x.I.length := List.length_set ..
  have hOl : (x.step (((K i).getD j 0).toNat,(i : Int),x.m,false)).O.length = x.O.length := rfl
  rw [hI,hm,hL,hIl,hOl] at i1
  exact ⟨by omega,by omega,by omega,by omega,by omega⟩
def StE (x y : St) : Prop := x.L = y.L ∧ x.I = y.I ∧ x.O = y.O ∧ x.m = y.m
theorem StE.step {x y : St} (h : StE x y) {e e' : Ev} (h1 : e.1 = e'.1) (h2 : e.2.2.2 = e'.2.2.2) : StE (x.step e) (y.step e') := by
 obtain ⟨a,b,c,d⟩ := h
 unfold St.step
 rw [← h2]
 split
 ·exact ⟨a,b,by dsimp only;rw [c,d,h1],by dsimp only;rw [d]⟩
 ·exact ⟨by dsimp only;rw [a,h1],by dsimp only;rw [b,d,h1],c,by dsimp only;rw [d]⟩
theorem StE.run : ∀ {l : List Ev} {x y : St},StE x y → StE (x.run l) (y.run l) := by
 intro l
 induction l with
 | nil => intro x y h;exact h
 | cons e l ih => intro x y h;exact ih (h.step rfl rfl)
theorem StE.dR {x y : St} (h : StE x y) (i j : Nat) : StE (dR K x i j) (dR K y i j) := by
 unfold Go.Vc.dR
 rw [← h.2.1, ← h.2.2.2]
 exact h.run
def wkS (K : Nat → List Int) (L : List Nat) (I O : List Int) (i m : Nat) : St := dR K (({ L := L,P := [],I := I,O := O,m := m } : St).step (i,0,m,false)) i 0
theorem qiP (K : Nat → List Int) (n : Nat) (h : 0 < n) : StE (qQZ K n) (wkS K [] (List.replicate n (-1)) (List.replicate n (-1)) 0 0) := by
 have e : qQZ K n = dR K ((st0 n).step (0, -1,0,false)) 0 0 := by
  unfold qQZ qM0 dR
  rw [if_neg (by omega)]
  have e2 : sI ((st0 n).step (0, -1,0,false)).I = (List.replicate n false).set 0 true := by
   show sI ((List.replicate n (-1)).set 0 ((0 : Nat) : Int)) = _
   rw [qHP,qlF]
  have e3 : ((st0 n).step (0, -1,0,false)).m = 1 := rfl
  rw [e2,e3,qN0,qJQ,qJQ,List.append_nil]
 rw [e]
 unfold wkS
 exact (StE.step (x := st0 n) ⟨rfl,rfl,rfl,rfl⟩ rfl rfl).dR 0 0
end Go.Vc

namespace Go.Vc
open Go.Proofs
set_option maxRecDepth 10000
set_option maxHeartbeats 4000000
def qj1 (t : List qAE) (L : List Nat) (I O : List Int) (k : Int) (m : Nat) : Prop :=
 t.length ≤ 45 ∧ I.length = t.length ∧ O.length = t.length ∧ (0 ≤ k ∧ k < t.length) ∧ m + 2 * unseen (sI (I.set k.toNat (m : Int))) + 2 ≤ 200 ∧ L.length ≤ m
theorem qVS {I : List Int} {n : Nat} (hI : I.length = n) (k : Int) : (decide (k ≥ 0) && decide (k < (n : Int)) && decide (I.getD k.toNat 0 < 0)) = okK (sI I) k := by
  unfold okK
  by_cases h1 : k < 0
  · rw [decide_eq_false (by omega : ¬ k ≥ 0)];rfl
  · rw [decide_eq_true (by omega : k ≥ 0)]
    by_cases h2 : k < (n : Int)
    · rw [decide_eq_true h2,qdH I k.toNat (by omega)]
      by_cases h3 : I.getD k.toNat 0 < 0
      · rw [decide_eq_true h3,decide_eq_false (by omega : ¬ 0 ≤ I.getD k.toNat 0)];rfl
      · rw [decide_eq_false h3,decide_eq_true (by omega : 0 ≤ I.getD k.toNat 0)];rfl
    · have : (sI I).getD k.toNat true = true := by
        rw [List.getD_eq_getElem?_getD,List.getElem?_eq_none (by unfold sI;rw [List.length_map];omega)];rfl
      rw [decide_eq_false h2,this];rfl
theorem qkH (N : Nat) : ∀ (t : List qAE) (L : List Nat) (I O : List Int) (k : Int) (m : Nat),
  FnM BB 117 [.agg [.rd qAC t],.int .i64 k,.own 0,.own 1,.own 2,.int .i64 m] [(0,.own qAI (qA7 L)),(1,.ow qAI I),(2,.ow qAI O)]
   (qj1 t L I O k m ∧ unseen (sI (I.set k.toNat (m : Int))) < N)
   (.tup [.own 0,.int .i64 ((wkS (qAB t) L I O k.toNat m).m : Int)]) [(0,.own qAI (qA7 (wkS (qAB t) L I O k.toNat m).L)),(1,.ow qAI (wkS (qAB t) L I O k.toNat m).I),(2,.ow qAI (wkS (qAB t) L I O k.toNat m).O)] := by
 induction N with
 | zero => intro t L I O k m;exact ⟨Tryz.call117,fun h => absurd h.2 (Nat.not_lt_zero _)⟩
 | succ N ih =>
  intro t L I O k m
  refine FnM.intro (N := 79) [0,1,2,3,4,5,6,12,13,14,15,34,61] [] 3 Tryz.call117 Tryz.func117 rfl rfl (by kernel_rfl) (fun hpre => ?_)
  repeat' ((conv => whnf);first|(with_reducible first|rfl|exact qAH|exact qAG)|exact True.intro|intro _|refine WA ?_ ?_|refine WF ?_|refine W1 rfl ?_ ?_|refine W2 rfl ?_ ?_|refine W3 rfl ?_ ?_|refine W4 ?_ ?_|refine W5 rfl ?_ ?_|refine W6 ?_ ?_|refine WN ?_|refine X1 (W1 rfl ?_ ?_)|refine X1 (W2 rfl ?_ ?_)|refine X2 (W7 rfl ?_ ?_)|refine X3 (W7 rfl ?_ ?_)|refine X4 (W7 rfl ?_ ?_)|refine X5 (W7 rfl ?_ ?_))
  all_goals (try (conv => whnf))
  all_goals (try first|exact obA|refine Ob.mk ?_)
  all_goals (obtain ⟨⟨ht,hIl,hOl,hk,hm,hL⟩,hN⟩ := hpre)
  ·have : (qA7 L).length = L.length := by unfold qA7;simp
   rw [this,List.length_singleton]
   simp only [bytes3,qWQ]
   omega
  ·omega
  ·omega
  ·constructor <;> omega
  generalize hx0 : (({ L := L,P := [],I := I,O := O,m := m } : St).step (k.toNat,0,m,false)) = x0
  have hxI : x0.I = I.set k.toNat (m : Int) := by rw [← hx0];rfl
  have hxL : x0.L = L ++ [k.toNat] := by rw [← hx0];rfl
  have hxO : x0.O = O := by rw [← hx0];rfl
  have hxm : x0.m = m + 1 := by rw [← hx0];rfl
  have hwk : wkS (qAB t) L I O k.toNat m = dR (qAB t) x0 k.toNat 0 := by unfold wkS;rw [hx0]
  rw [hwk]
  refine LoopStop.mk (α := St × Nat) (fun a => [(5,.int .i64 a.1.m),(14,.int .i64 a.2)]) (fun a => [(0,.own qAI (qA7 a.1.L)),(1,.ow qAI a.1.I),(2,.ow qAI a.1.O)]) 60
   (fun a => dR (qAB t) a.1 k.toNat a.2 = dR (qAB t) x0 k.toNat 0 ∧ a.1.I.length = t.length ∧ a.1.O.length = t.length ∧ a.1.m + 2 * unseen (sI a.1.I) + 1 ≤ 200 ∧ a.1.L.length ≤ a.1.m ∧ unseen (sI a.1.I) ≤ N ∧ a.2 ≤ (qAB t k.toNat).length)
   (fun a => (qAB t k.toNat).length - a.2) (x0,0) ⟨rfl,by rw [hxI,List.length_set];exact hIl,by rw [hxO];exact hOl,by rw [hxI,hxm];omega,by rw [hxL,hxm,List.length_append,List.length_singleton];omega,by rw [hxI];omega,Nat.zero_le _⟩ ?_ (fun a ha => ?_)
  ·repeat' ((conv => whnf);first|(with_reducible first|rfl|exact qAH|exact qAG)|exact True.intro|intro _|refine WA ?_ ?_|refine WF ?_|refine W1 rfl ?_ ?_|refine W2 rfl ?_ ?_|refine W3 rfl ?_ ?_|refine W4 ?_ ?_|refine W5 rfl ?_ ?_|refine W6 ?_ ?_|refine WN ?_|refine X1 (W1 rfl ?_ ?_)|refine X1 (W2 rfl ?_ ?_)|refine X2 (W7 rfl ?_ ?_)|refine X3 (W7 rfl ?_ ?_)|refine X4 (W7 rfl ?_ ?_)|refine X5 (W7 rfl ?_ ?_))
   all_goals (try (conv => whnf))
   all_goals (try first|exact obA|refine Ob.mk ?_)
   ·show (m : Int) + 1 = (x0.m : Int);rw [hxm];omega
   ·show Chunk.own qAI _ = Chunk.own qAI (qA7 x0.L)
    rw [hxL,qG7,Int.toNat_of_nonneg hk.1]
   ·show Chunk.ow qAI _ = Chunk.ow qAI x0.I
    rw [hxI]
   ·show Chunk.ow qAI _ = Chunk.ow qAI x0.O
    rw [hxO]
  ·obtain ⟨x,j⟩ := a
   dsimp only at ha ⊢
   obtain ⟨hD,hI2,hO2,hm2,hL2,hu2,hj2⟩ := ha
   repeat' ((conv => whnf);first|(with_reducible first|rfl|exact qAH|exact qAG)|exact True.intro|intro _|refine WA ?_ ?_|refine WF ?_|refine W1 rfl ?_ ?_|refine W2 rfl ?_ ?_|refine W3 rfl ?_ ?_|refine W4 ?_ ?_|refine W5 rfl ?_ ?_|refine W6 ?_ ?_|refine WN ?_|refine X1 (W1 rfl ?_ ?_)|refine X1 (W2 rfl ?_ ?_)|refine X2 (W7 rfl ?_ ?_)|refine X3 (W7 rfl ?_ ?_)|refine X4 (W7 rfl ?_ ?_)|refine X5 (W7 rfl ?_ ?_))
   all_goals (try (conv => whnf))
   all_goals (try first|exact obA|refine Ob.mk ?_)
   all_goals (try simp only [Int.toNat_natCast] at *)
   ·rename_i h1 h2 h3
    have hc : okK (sI x.I) ((qAB t k.toNat).getD j 0) = true := by rw [← qVS hI2];exact h3
    have hks := qBL hc
    have hls : (sI x.I).length = t.length := by unfold sI;rw [List.length_map];exact hI2
    have hu := qA9 hks.2.2
    rw [← qHP x.I ((qAB t k.toNat).getD j 0).toNat x.m] at hu
    show qj1 t x.L x.I x.O ((qAB t k.toNat).getD j 0) x.m ∧ unseen (sI (x.I.set ((qAB t k.toNat).getD j 0).toNat (x.m : Int))) < N
    exact ⟨⟨ht,hI2,hO2,⟨hks.1,by omega⟩,by omega,hL2⟩,by omega⟩
   ·rename_i h1 h2 h3
    have hj : j < (qAB t k.toNat).length := by have h := of_decide_eq_true h2;exact Int.ofNat_lt.mp h
    have hc : okK (sI x.I) ((qAB t k.toNat).getD j 0) = true := by rw [← qVS hI2];exact h3
    rw [qdN hj hc] at hD
    have hks := qBL hc
    have hu := qA9 hks.2.2
    rw [← qHP x.I ((qAB t k.toNat).getD j 0).toNat x.m] at hu
    have hb := qcI (K := qAB t) (x.step (((qAB t k.toNat).getD j 0).toNat,(k.toNat : Int),x.m,false)) ((qAB t k.toNat).getD j 0).toNat 0
    have e1 : (x.step (((qAB t k.toNat).getD j 0).toNat,(k.toNat : Int),x.m,false)).m = x.m + 1 := rfl
    have e2 : (x.step (((qAB t k.toNat).getD j 0).toNat,(k.toNat : Int),x.m,false)).I = x.I.set ((qAB t k.toNat).getD j 0).toNat (x.m : Int) := rfl
    have e3 : (x.step (((qAB t k.toNat).getD j 0).toNat,(k.toNat : Int),x.m,false)).O = x.O := rfl
    have e4 : (x.step (((qAB t k.toNat).getD j 0).toNat,(k.toNat : Int),x.m,false)).L.length = x.L.length + 1 := by show (x.L ++ [_]).length = _;simp
    have hE : StE (wkS (qAB t) x.L x.I x.O ((qAB t k.toNat).getD j 0).toNat x.m) (dR (qAB t) (x.step (((qAB t k.toNat).getD j 0).toNat,(k.toNat : Int),x.m,false)) ((qAB t k.toNat).getD j 0).toNat 0) := by
     unfold wkS
     exact StE.dR (StE.step (x := { L := x.L,P := [],I := x.I,O := x.O,m := x.m }) (y := x) ⟨rfl,rfl,rfl,rfl⟩ rfl rfl) _ _
    rw [e1,e2,e3,e4,List.length_set] at hb
    generalize dR (qAB t) (x.step (((qAB t k.toNat).getD j 0).toNat,(k.toNat : Int),x.m,false)) ((qAB t k.toNat).getD j 0).toNat 0 = y at *
    refine Rnd.mk ⟨(y,j + 1),⟨hD,by show y.I.length = _;omega,by show y.O.length = _;omega,by show y.m + 2 * unseen (sI y.I) + 1 ≤ 200;omega,by show y.L.length ≤ y.m;omega,by show unseen (sI y.I) ≤ N;omega,by show j + 1 ≤ _;omega⟩,by show _ - (j + 1) < _;omega,?_⟩
    repeat' ((conv => whnf);first|(with_reducible first|rfl|exact qAH|exact qAG)|exact True.intro|intro _|refine WA ?_ ?_|refine WF ?_|refine W1 rfl ?_ ?_|refine W2 rfl ?_ ?_|refine W3 rfl ?_ ?_|refine W4 ?_ ?_|refine W5 rfl ?_ ?_|refine W6 ?_ ?_|refine WN ?_|refine X1 (W1 rfl ?_ ?_)|refine X1 (W2 rfl ?_ ?_)|refine X2 (W7 rfl ?_ ?_)|refine X3 (W7 rfl ?_ ?_)|refine X4 (W7 rfl ?_ ?_)|refine X5 (W7 rfl ?_ ?_))
    all_goals (try (conv => whnf))
    all_goals (try first|exact obA|refine Ob.mk ?_)
    ·show ((wkS (qAB t) x.L x.I x.O ((qAB t k.toNat).getD j 0).toNat x.m).m : Int) = (y.m : Int)
     rw [hE.2.2.2]
    all_goals (try rfl)
    ·show Chunk.own qAI (qA7 (wkS (qAB t) x.L x.I x.O ((qAB t k.toNat).getD j 0).toNat x.m).L) = Chunk.own qAI (qA7 y.L)
     rw [hE.1]
    ·show Chunk.ow qAI (wkS (qAB t) x.L x.I x.O ((qAB t k.toNat).getD j 0).toNat x.m).I = Chunk.ow qAI y.I
     rw [hE.2.1]
    ·show Chunk.ow qAI (wkS (qAB t) x.L x.I x.O ((qAB t k.toNat).getD j 0).toNat x.m).O = Chunk.ow qAI y.O
     rw [hE.2.2.1]
   ·rename_i h1 h2 h3
    have hj : j < (qAB t k.toNat).length := by have h := of_decide_eq_true h2;exact Int.ofNat_lt.mp h
    have hc : okK (sI x.I) ((qAB t k.toNat).getD j 0) = false := by rw [← qVS hI2];exact h3
    rw [qWG hj hc] at hD
    refine Rnd.mk ⟨(x,j + 1),⟨hD,hI2,hO2,hm2,hL2,hu2,by show j + 1 ≤ _;omega⟩,by show _ - (j + 1) < _;omega,?_⟩
    all_goals exact vcA
   all_goals (rename_i h1 h2)
   all_goals (have hj : ¬ j < (qAB t k.toNat).length := by have h := of_decide_eq_false h2;exact fun q => h (Int.ofNat_lt.mpr q))
   all_goals (rw [qX1 hj] at hD;rw [← hD])
   ·rfl
   ·rfl
   ·rfl
   ·rfl
instance hWalk (t : List qAE) (L : List Nat) (I O : List Int) (k : Int) (m : Nat) :
  FnM BB 117 [.agg [.rd qAC t],.int .i64 k,.own 0,.own 1,.own 2,.int .i64 m] [(0,.own qAI (qA7 L)),(1,.ow qAI I),(2,.ow qAI O)]
   (qj1 t L I O k m)
   (.tup [.own 0,.int .i64 ((wkS (qAB t) L I O k.toNat m).m : Int)]) [(0,.own qAI (qA7 (wkS (qAB t) L I O k.toNat m).L)),(1,.ow qAI (wkS (qAB t) L I O k.toNat m).I),(2,.ow qAI (wkS (qAB t) L I O k.toNat m).O)] :=
 have h := qkH (unseen (sI (I.set k.toNat (m : Int))) + 1) t L I O k m
 ⟨h.call,fun hp => h.ok ⟨hp,Nat.lt_succ_self _⟩⟩
end Go.Vc

namespace Go.Vc
open Go.Proofs
set_option maxRecDepth 10000
set_option maxHeartbeats 4000000
instance hWalk0 (t : List qAE) (I O : List Int) :
  FnM BB 117 [.agg [.rd qAC t],.int .i64 0,.nils,.own 0,.own 1,.int .i64 0] [(0,.ow qAI I),(1,.ow qAI O)]
   (qj1 t [] I O 0 0)
   (.tup [.own 2,.int .i64 ((wkS (qAB t) [] I O 0 0).m : Int)]) [(0,.ow qAI (wkS (qAB t) [] I O 0 0).I),(1,.ow qAI (wkS (qAB t) [] I O 0 0).O),(2,.own qAI (qA7 (wkS (qAB t) [] I O 0 0).L))] := by
 refine FnM.intro (N := 79) [0,1,2,3,4,5,6,12,13,14,15,34,61] [] 2 Tryz.call117 Tryz.func117 rfl rfl (by kernel_rfl) (fun hpre => ?_)
 repeat' ((conv => whnf);first|(with_reducible first|rfl|exact qAH|exact qAG)|exact True.intro|intro _|refine WA ?_ ?_|refine WF ?_|refine W1 rfl ?_ ?_|refine W2 rfl ?_ ?_|refine W3 rfl ?_ ?_|refine W4 ?_ ?_|refine W5 rfl ?_ ?_|refine W6 ?_ ?_|refine WN ?_|refine X1 (W1 rfl ?_ ?_)|refine X1 (W2 rfl ?_ ?_)|refine X2 (W7 rfl ?_ ?_)|refine X3 (W7 rfl ?_ ?_)|refine X4 (W7 rfl ?_ ?_)|refine X5 (W7 rfl ?_ ?_))
 all_goals (try (conv => whnf))
 all_goals (try first|exact obA|refine Ob.mk ?_)
 all_goals (obtain ⟨ht,hIl,hOl,hk,hm,hL⟩ := hpre)
 ·show 0 ≤ (0 : Int) ∧ (0 : Int) < (I.length : Int);omega
 ·show 0 < I.length;omega
 have hk0 : (0 : Int).toNat = 0 := rfl
 generalize hx0 : (({ L := [],P := [],I := I,O := O,m := 0 } : St).step (0,0,0,false)) = x0
 have hxI : x0.I = I.set 0 0 := by rw [← hx0];rfl
 have hxL : x0.L = [0] := by rw [← hx0];rfl
 have hxO : x0.O = O := by rw [← hx0];rfl
 have hxm : x0.m = 1 := by rw [← hx0];rfl
 have hwk : wkS (qAB t) [] I O 0 0 = dR (qAB t) x0 0 0 := by unfold wkS;rw [hx0]
 rw [hwk]
 have hm : 2 * unseen (sI (I.set 0 0)) + 2 ≤ 200 := by have h : 0 + 2 * unseen (sI (I.set (0 : Int).toNat ((0 : Nat) : Int))) + 2 ≤ 200 := hm;have e : I.set (0 : Int).toNat ((0 : Nat) : Int) = I.set 0 0 := rfl;rw [e] at h;omega
 refine LoopStop.mk (α := St × Nat) (fun a => [(5,.int .i64 a.1.m),(14,.int .i64 a.2)]) (fun a => [(4,.own qAI (qA7 a.1.L)),(0,.ow qAI a.1.I),(1,.ow qAI a.1.O)]) 60
  (fun a => dR (qAB t) a.1 0 a.2 = dR (qAB t) x0 0 0 ∧ a.1.I.length = t.length ∧ a.1.O.length = t.length ∧ a.1.m + 2 * unseen (sI a.1.I) + 1 ≤ 200 ∧ a.1.L.length ≤ a.1.m ∧ a.2 ≤ (qAB t 0).length)
  (fun a => (qAB t 0).length - a.2) (x0,0) ⟨rfl,by rw [hxI,List.length_set];exact hIl,by rw [hxO];exact hOl,by rw [hxI,hxm];omega,by rw [hxL,hxm];decide,Nat.zero_le _⟩ ?_ (fun a ha => ?_)
 ·repeat' ((conv => whnf);first|(with_reducible first|rfl|exact qAH|exact qAG)|exact True.intro|intro _|refine WA ?_ ?_|refine WF ?_|refine W1 rfl ?_ ?_|refine W2 rfl ?_ ?_|refine W3 rfl ?_ ?_|refine W4 ?_ ?_|refine W5 rfl ?_ ?_|refine W6 ?_ ?_|refine WN ?_|refine X1 (W1 rfl ?_ ?_)|refine X1 (W2 rfl ?_ ?_)|refine X2 (W7 rfl ?_ ?_)|refine X3 (W7 rfl ?_ ?_)|refine X4 (W7 rfl ?_ ?_)|refine X5 (W7 rfl ?_ ?_))
  all_goals (try (conv => whnf))
  all_goals (try first|exact obA|refine Ob.mk ?_)
  ·show _ = (x0.m : Int);rw [hxm];rfl
  ·show Chunk.own qAI _ = Chunk.own qAI (qA7 x0.L)
   rw [hxL];rfl
  ·show Chunk.ow qAI _ = Chunk.ow qAI x0.I
   rw [hxI];rfl
  ·show Chunk.ow qAI _ = Chunk.ow qAI x0.O
   rw [hxO]
 ·obtain ⟨x,j⟩ := a
  dsimp only at ha ⊢
  obtain ⟨hD,hI2,hO2,hm2,hL2,hj2⟩ := ha
  repeat' ((conv => whnf);first|(with_reducible first|rfl|exact qAH|exact qAG)|exact True.intro|intro _|refine WA ?_ ?_|refine WF ?_|refine W1 rfl ?_ ?_|refine W2 rfl ?_ ?_|refine W3 rfl ?_ ?_|refine W4 ?_ ?_|refine W5 rfl ?_ ?_|refine W6 ?_ ?_|refine WN ?_|refine X1 (W1 rfl ?_ ?_)|refine X1 (W2 rfl ?_ ?_)|refine X2 (W7 rfl ?_ ?_)|refine X3 (W7 rfl ?_ ?_)|refine X4 (W7 rfl ?_ ?_)|refine X5 (W7 rfl ?_ ?_))
  all_goals (try (conv => whnf))
  all_goals (try first|exact obA|refine Ob.mk ?_)
  all_goals (try simp only [Int.toNat_natCast] at *)
  ·rename_i h1 h2 h3
   have hc : okK (sI x.I) ((qAB t 0).getD j 0) = true := by rw [← qVS hI2];exact h3
   have hks := qBL hc
   have hls : (sI x.I).length = t.length := by unfold sI;rw [List.length_map];exact hI2
   have hu := qA9 hks.2.2
   rw [← qHP x.I ((qAB t 0).getD j 0).toNat x.m] at hu
   show qj1 t x.L x.I x.O ((qAB t 0).getD j 0) x.m
   exact ⟨ht,hI2,hO2,⟨hks.1,by omega⟩,by omega,hL2⟩
  ·rename_i h1 h2 h3
   have hj : j < (qAB t 0).length := by have h := of_decide_eq_true h2;exact Int.ofNat_lt.mp h
   have hc : okK (sI x.I) ((qAB t 0).getD j 0) = true := by rw [← qVS hI2];exact h3
   rw [qdN hj hc] at hD
   have hks := qBL hc
   have hu := qA9 hks.2.2
   rw [← qHP x.I ((qAB t 0).getD j 0).toNat x.m] at hu
   have hb := qcI (K := qAB t) (x.step (((qAB t 0).getD j 0).toNat,(0 : Int),x.m,false)) ((qAB t 0).getD j 0).toNat 0
   have e1 : (x.step (((qAB t 0).getD j 0).toNat,(0 : Int),x.m,false)).m = x.m + 1 := rfl
   have e2 : (x.step (((qAB t 0).getD j 0).toNat,(0 : Int),x.m,false)).I = x.I.set ((qAB t 0).getD j 0).toNat (x.m : Int) := rfl
   have e3 : (x.step (((qAB t 0).getD j 0).toNat,(0 : Int),x.m,false)).O = x.O := rfl
   have e4 : (x.step (((qAB t 0).getD j 0).toNat,(0 : Int),x.m,false)).L.length = x.L.length + 1 := by show (x.L ++ [_]).length = _;simp
   have hE : StE (wkS (qAB t) x.L x.I x.O ((qAB t 0).getD j 0).toNat x.m) (dR (qAB t) (x.step (((qAB t 0).getD j 0).toNat,(0 : Int),x.m,false)) ((qAB t 0).getD j 0).toNat 0) := by
    unfold wkS
    exact StE.dR (StE.step (x := { L := x.L,P := [],I := x.I,O := x.O,m := x.m }) (y := x) ⟨rfl,rfl,rfl,rfl⟩ rfl rfl) _ _
   rw [e1,e2,e3,e4,List.length_set] at hb
   generalize dR (qAB t) (x.step (((qAB t 0).getD j 0).toNat,(0 : Int),x.m,false)) ((qAB t 0).getD j 0).toNat 0 = y at *
   refine Rnd.mk ⟨(y,j + 1),⟨hD,by show y.I.length = _;omega,by show y.O.length = _;omega,by show y.m + 2 * unseen (sI y.I) + 1 ≤ 200;omega,by show y.L.length ≤ y.m;omega,by show j + 1 ≤ _;omega⟩,by show _ - (j + 1) < _;omega,?_⟩
   repeat' ((conv => whnf);first|(with_reducible first|rfl|exact qAH|exact qAG)|exact True.intro|intro _|refine WA ?_ ?_|refine WF ?_|refine W1 rfl ?_ ?_|refine W2 rfl ?_ ?_|refine W3 rfl ?_ ?_|refine W4 ?_ ?_|refine W5 rfl ?_ ?_|refine W6 ?_ ?_|refine WN ?_|refine X1 (W1 rfl ?_ ?_)|refine X1 (W2 rfl ?_ ?_)|refine X2 (W7 rfl ?_ ?_)|refine X3 (W7 rfl ?_ ?_)|refine X4 (W7 rfl ?_ ?_)|refine X5 (W7 rfl ?_ ?_))
   all_goals (try (conv => whnf))
   all_goals (try first|exact obA|refine Ob.mk ?_)
   ·show ((wkS (qAB t) x.L x.I x.O ((qAB t 0).getD j 0).toNat x.m).m : Int) = (y.m : Int)
    rw [hE.2.2.2]
   all_goals (try rfl)
   ·show Chunk.own qAI (qA7 (wkS (qAB t) x.L x.I x.O ((qAB t 0).getD j 0).toNat x.m).L) = Chunk.own qAI (qA7 y.L)
    rw [hE.1]
   ·show Chunk.ow qAI (wkS (qAB t) x.L x.I x.O ((qAB t 0).getD j 0).toNat x.m).I = Chunk.ow qAI y.I
    rw [hE.2.1]
   ·show Chunk.ow qAI (wkS (qAB t) x.L x.I x.O ((qAB t 0).getD j 0).toNat x.m).O = Chunk.ow qAI y.O
    rw [hE.2.2.1]
  ·rename_i h1 h2 h3
   have hj : j < (qAB t 0).length := by have h := of_decide_eq_true h2;exact Int.ofNat_lt.mp h
   have hc : okK (sI x.I) ((qAB t 0).getD j 0) = false := by rw [← qVS hI2];exact h3
   rw [qWG hj hc] at hD
   refine Rnd.mk ⟨(x,j + 1),⟨hD,hI2,hO2,hm2,hL2,by show j + 1 ≤ _;omega⟩,by show _ - (j + 1) < _;omega,?_⟩
   all_goals exact vcA
  all_goals (rename_i h1 h2)
  all_goals (have hj : ¬ j < (qAB t 0).length := by have h := of_decide_eq_false h2;exact fun q => h (Int.ofNat_lt.mpr q))
  all_goals (rw [qX1 hj] at hD;rw [← hD])
  ·rfl
  ·rfl
  ·rfl
  ·rfl
theorem qV4 (s : List Bool) : unseen s ≤ s.length := by unfold unseen;exact List.count_le_length
instance hAll (l : List qAE) : Fn BB 61 [.agg [.rd qAC l]] (l.length ≤ 45) (.tup [.rd qAI (qA7 (fin l).L),.rd qAI (fin l).I,.rd qAI (fin l).O]) := by
 refine Fn.intro (N := 42) [0,1,2,3,4,5,6,7,8,20,31] [(1,[0,0,0,6,0,0,0,6,6,6]),(2000007,[1,2])] Tryz.call61 Tryz.func61 rfl rfl (by kernel_rfl) (fun hpre => ?_)
 repeat' ((conv => whnf);first|(with_reducible first|rfl|exact qAH|exact qAG)|exact True.intro|intro _|refine WA ?_ ?_|refine WF ?_|refine W1 rfl ?_ ?_|refine W2 rfl ?_ ?_|refine W3 rfl ?_ ?_|refine W4 ?_ ?_|refine W5 rfl ?_ ?_|refine W6 ?_ ?_|refine WN ?_|refine X1 (W1 rfl ?_ ?_)|refine X1 (W2 rfl ?_ ?_)|refine X2 (W7 rfl ?_ ?_)|refine X3 (W7 rfl ?_ ?_)|refine X4 (W7 rfl ?_ ?_)|refine X5 (W7 rfl ?_ ?_))
 all_goals (try (conv => whnf))
 all_goals (try first|exact obA|refine Ob.mk ?_)
 all_goals (try simp only [bytes3,qWQ] at *)
 all_goals (try omega)
 all_goals (rw [show ((l.length : Int)).toNat = l.length by omega])
 refine LoopStop.mk (α := Nat) (fun i => [(7,.int .i64 i)]) (fun i => [(1,.own qAI (List.replicate i (-1 : Int) ++ List.replicate (l.length - i) (0 : Int))),(2,.own qAI (List.replicate i (-1 : Int) ++ List.replicate (l.length - i) (0 : Int)))]) 40 (fun i => i ≤ l.length) (fun i => l.length - i) 0 (Nat.zero_le _) ?_ (fun i hi => ?_)
 ·all_goals exact vcA
 ·have hrl : (List.replicate i (-1 : Int) ++ List.replicate (l.length - i) (0 : Int)).length = l.length := by simp;omega
  repeat' ((conv => whnf);first|(with_reducible first|rfl|exact qAH|exact qAG)|exact True.intro|intro _|refine WA ?_ ?_|refine WF ?_|refine W1 rfl ?_ ?_|refine W2 rfl ?_ ?_|refine W3 rfl ?_ ?_|refine W4 ?_ ?_|refine W5 rfl ?_ ?_|refine W6 ?_ ?_|refine WN ?_|refine X1 (W1 rfl ?_ ?_)|refine X1 (W2 rfl ?_ ?_)|refine X2 (W7 rfl ?_ ?_)|refine X3 (W7 rfl ?_ ?_)|refine X4 (W7 rfl ?_ ?_)|refine X5 (W7 rfl ?_ ?_))
  all_goals (try (conv => whnf))
  all_goals (try first|exact obA|refine Ob.mk ?_)
  all_goals (try simp only [Int.toNat_natCast] at *)
  all_goals (try rw [hrl] at *)
  all_goals (try (have hlt : i < l.length := by have h := of_decide_eq_true ‹decide ((i : Int) < (l.length : Int)) = true›;omega))
  all_goals (try (have hin : i = l.length := by have h := of_decide_eq_false ‹decide ((i : Int) < (l.length : Int)) = false›;omega))
  ·refine Rnd.mk ⟨i + 1,by omega,by omega,?_⟩
   repeat' ((conv => whnf);first|(with_reducible first|rfl|exact qAH|exact qAG)|exact True.intro|intro _|refine WA ?_ ?_|refine WF ?_|refine W1 rfl ?_ ?_|refine W2 rfl ?_ ?_|refine W3 rfl ?_ ?_|refine W4 ?_ ?_|refine W5 rfl ?_ ?_|refine W6 ?_ ?_|refine WN ?_|refine X1 (W1 rfl ?_ ?_)|refine X1 (W2 rfl ?_ ?_)|refine X2 (W7 rfl ?_ ?_)|refine X3 (W7 rfl ?_ ?_)|refine X4 (W7 rfl ?_ ?_)|refine X5 (W7 rfl ?_ ?_))
   all_goals (try (conv => whnf))
   all_goals (try first|exact obA|refine Ob.mk ?_)
   all_goals (try rfl)
   all_goals (rw [qT1 i l.length hlt])
  all_goals (subst hin;clear hrl)
  all_goals (try simp only [Nat.sub_self,List.replicate_zero,List.append_nil] at *)
  all_goals (try (have hpos : 0 < l.length := by have h := of_decide_eq_true ‹decide ((l.length : Int) > 0) = true›;omega))
  all_goals (try (have hE := qiP (qAB l) l.length hpos))
  ·have hu := qV4 (sI ((List.replicate l.length (-1 : Int)).set (0 : Int).toNat ((0 : Nat) : Int)))
   have hul : (sI ((List.replicate l.length (-1 : Int)).set (0 : Int).toNat ((0 : Nat) : Int))).length = l.length := by unfold sI;simp
   exact ⟨hpre,by simp,by simp,⟨by omega,by omega⟩,by omega,Nat.le_refl _⟩
  ·rw [← hE.1];rfl
  ·rw [← hE.2.1];rfl
  ·rw [← hE.2.2.1];rfl
  all_goals (have hz : l.length = 0 := by have h := of_decide_eq_false ‹decide ((l.length : Int) > 0) = false›;omega)
  all_goals (have e : fin l = st0 l.length := by unfold fin qQZ qM0;rw [if_pos hz];rfl)
  all_goals (rw [e])
  all_goals rfl
instance hList (l : List qAE) : Fn BB 14 [.agg [.rd qAC l]] (l.length ≤ 45) (.rd qAI (qA7 (fin l).L)) := by
 refine Fn.intro (N := 13) [0,1,2,3] [] Tryz.call14 Tryz.func14 rfl rfl (by kernel_rfl) (fun hpre => ?_)
 repeat' ((conv => whnf);first|(with_reducible first|rfl|exact qAH|exact qAG)|exact True.intro|intro _|refine WA ?_ ?_|refine WF ?_|refine W1 rfl ?_ ?_|refine W2 rfl ?_ ?_|refine W3 rfl ?_ ?_|refine W4 ?_ ?_|refine W5 rfl ?_ ?_|refine W6 ?_ ?_|refine WN ?_|refine X1 (W1 rfl ?_ ?_)|refine X1 (W2 rfl ?_ ?_)|refine X2 (W7 rfl ?_ ?_)|refine X3 (W7 rfl ?_ ?_)|refine X4 (W7 rfl ?_ ?_)|refine X5 (W7 rfl ?_ ?_))
 all_goals (try (conv => whnf))
 all_goals (try first|exact obA|refine Ob.mk ?_)
 all_goals (first | exact hpre | rfl)
instance hMarks (l : List qAE) : Fn BB 156 [.agg [.rd qAC l]] (l.length ≤ 45) (.tup [.rd qAI (fin l).I,.rd qAI (fin l).O]) := by
 refine Fn.intro (N := 15) [0,1,2,3,5,6] [] Tryz.call156 Tryz.func156 rfl rfl (by kernel_rfl) (fun hpre => ?_)
 repeat' ((conv => whnf);first|(with_reducible first|rfl|exact qAH|exact qAG)|exact True.intro|intro _|refine WA ?_ ?_|refine WF ?_|refine W1 rfl ?_ ?_|refine W2 rfl ?_ ?_|refine W3 rfl ?_ ?_|refine W4 ?_ ?_|refine W5 rfl ?_ ?_|refine W6 ?_ ?_|refine WN ?_|refine X1 (W1 rfl ?_ ?_)|refine X1 (W2 rfl ?_ ?_)|refine X2 (W7 rfl ?_ ?_)|refine X3 (W7 rfl ?_ ?_)|refine X4 (W7 rfl ?_ ?_)|refine X5 (W7 rfl ?_ ?_))
 all_goals (try (conv => whnf))
 all_goals (try first|exact obA|refine Ob.mk ?_)
 all_goals (first | exact hpre | rfl)
end Go.Vc

namespace Go.Vc
open Go.Proofs
set_option maxRecDepth 10000
set_option maxHeartbeats 4000000
def qjB (l : List qAE) : List qAE := l.set 0 (0,0,[],[],[], -1,(l.getD 0 qAC.dflt).kids)
def qeZ (x : List qAE) (k : Nat) : List qAE := qjB (qOB x (qAB x) [] (List.replicate x.length false) k (-1))
def qVW (l : List Int) (i : Int) : Option Nat := (List.range l.length).find? fun k => l.getD k 0 == i
def qcK (t : List qAE) (i : Int) : List qAE := match qVW (qA7 (fin t).L) i with | some k => qeZ (qEI t) k | none => [qYA]
theorem qZ3 {l : List Int} {i : Int} {k : Nat} (hk : k < l.length) (h : l.getD k 0 = i) (h0 : ∀ j,j < k → l.getD j 0 ≠ i) : qVW l i = some k := by
 unfold qVW
 rw [List.find?_eq_some_iff_append]
 refine ⟨by rw [h];simp,List.range k,(List.range' (k + 1) (l.length - (k + 1))),?_,fun a ha => ?_⟩
 ·rw [List.range_eq_range',List.range_eq_range',show l.length = k + (1 + (l.length - (k + 1))) by omega, ← List.range'_append_1, ← List.range'_append_1]
  simp
  omega
 ·simpa using h0 a (by simpa using ha)
theorem qLS {l : List Int} {i : Int} (h0 : ∀ j,j < l.length → l.getD j 0 ≠ i) : qVW l i = none := by
 unfold qVW
 rw [List.find?_eq_none]
 intro a ha
 simpa using h0 a (by simpa using ha)
def qTD (t : List qAE) : Prop := qFU t = true ∧ t.length ≤ 45 ∧ qFU (qEI t) = true ∧ (fin t).L.length ≤ (qEI t).length ∧ (qEI t).length ≤ 1000
instance hSubN (t : List qAE) (i : Int) : FnM BN 116 [.agg [.rd qAC t],.int .i64 i] [] (qTD t) (.agg [.rd qAC (qcK t i)]) [] := by
 refine FnM.intro (N := 67) [0,1,2,4,5,7,8,9,10,30,39,47] [(10,[0,0,6,0,0,0,6,6,6,6]),(11,[0,1,0,1,1,1,1,1,3,3])] 0 Tryz.call116 Tryz.func116 rfl rfl (by kernel_rfl) (fun hpre => ?_)
 obtain ⟨h1,h2,h3,h4,h5⟩ := hpre
 have d := qHQ (qAB t) t.length
 have hlI : (fin t).I.length = t.length := d.lI
 have hll : (qA7 (fin t).L).length = (fin t).L.length := by unfold qA7;rw [List.length_map]
 have hL : (fin t).L.length ≤ 45 := by have := qEX d.nod d.lt;have e : (qQZ (qAB t) t.length).L = (fin t).L := rfl;rw [e] at this;omega
 have pp : ∀ k : Nat,k < (fin t).L.length → qgG (qEI t) [] (List.replicate (qEI t).length false) (k : Int) := fun k hk => by
  have h := qIU ((List.replicate (qEI t).length false).set (k : Int).toNat true)
  rw [List.length_set,List.length_replicate] at h
  exact ⟨h3,List.length_replicate,⟨by omega,by omega⟩,by show 0 + _ + 1 ≤ 5000;omega⟩
 have hin : ∀ j,j < (qA7 (fin t).L).length → (qA7 (fin t).L).getD j 0 = i → 0 ≤ i ∧ i < ((fin t).I.length : Int) ∧ ¬ (fin t).I.getD i.toNat qAI.dflt < 0 := fun j hj e => by
  rw [hll] at hj
  have hm : (fin t).L.getD j 0 ∈ (fin t).L := by rw [List.getD_eq_getElem?_getD,List.getElem?_eq_getElem hj];exact List.getElem_mem _
  have e2 : (qA7 (fin t).L).getD j 0 = ((fin t).L.getD j 0 : Nat) := by unfold qA7;simp [List.getD,hj]
  have e3 : i.toNat = (fin t).L.getD j 0 := by omega
  have hlt := d.lt _ hm
  have hr := d.rI _ hm
  have e4 : (fin t).I.getD i.toNat qAI.dflt = (qQZ (qAB t) t.length).I.getD ((fin t).L.getD j 0) (-1) := by
   rw [e3]
   show (fin t).I.getD _ _ = (fin t).I.getD _ _
   simp [List.getD,show (fin t).L[j]?.getD 0 < (fin t).I.length by rw [hlI];exact hlt]
  rw [e4,hlI]
  have hlt2 : (fin t).L.getD j 0 < t.length := hlt
  omega
 repeat' ((conv => whnf);first|(with_reducible first|rfl|exact qAH|exact qAG)|exact True.intro|intro _|refine WA ?_ ?_|refine WF ?_|refine W1 rfl ?_ ?_|refine W2 rfl ?_ ?_|refine W3 rfl ?_ ?_|refine W4 ?_ ?_|refine W5 rfl ?_ ?_|refine W6 ?_ ?_|refine WN ?_|refine X1 (W1 rfl ?_ ?_)|refine X1 (W2 rfl ?_ ?_)|refine X2 (W7 rfl ?_ ?_)|refine X3 (W7 rfl ?_ ?_)|refine X4 (W7 rfl ?_ ?_)|refine X5 (W7 rfl ?_ ?_))
 all_goals (try (conv => whnf))
 all_goals (try first|exact obA|refine Ob.mk ?_)
 ·have h := ‹(decide (i < 0) || decide (i ≥ ((fin t).I.length : Int))) = false›
  simp only [Bool.or_eq_false_iff,decide_eq_false_iff_not] at h
  omega
 ·have h := ‹(decide (i < 0) || decide (i ≥ ((fin t).I.length : Int)) || decide ((fin t).I.getD i.toNat qAI.dflt < 0)) = true›
  simp only [Bool.or_eq_true,decide_eq_true_eq] at h
  unfold qcK
  rw [qLS (fun j hj e => by have := hin j hj e;omega)]
 refine LoopStop.mk (α := Nat) (fun k => [(9,.int .i64 k)]) (fun _ => []) 20 (fun k => k ≤ (qA7 (fin t).L).length ∧ ∀ j,j < k → (qA7 (fin t).L).getD j 0 ≠ i) (fun k => (qA7 (fin t).L).length - k) 0 ⟨Nat.zero_le _,fun j hj => absurd hj (Nat.not_lt_zero _)⟩ ?_ (fun k hk => ?_)
 ·all_goals exact vcA
 ·obtain ⟨hk,ha⟩ := hk
  repeat' ((conv => whnf);first|(with_reducible first|rfl|exact qAH|exact qAG)|exact True.intro|intro _|refine WA ?_ ?_|refine WF ?_|refine W1 rfl ?_ ?_|refine W2 rfl ?_ ?_|refine W3 rfl ?_ ?_|refine W4 ?_ ?_|refine W5 rfl ?_ ?_|refine W6 ?_ ?_|refine WN ?_|refine X1 (W1 rfl ?_ ?_)|refine X1 (W2 rfl ?_ ?_)|refine X2 (W7 rfl ?_ ?_)|refine X3 (W7 rfl ?_ ?_)|refine X4 (W7 rfl ?_ ?_)|refine X5 (W7 rfl ?_ ?_))
  all_goals (try (conv => whnf))
  all_goals (try first|exact obA|refine Ob.mk ?_)
  all_goals (try simp only [Int.toNat_natCast] at *)
  all_goals (try (have hp : k < (qA7 (fin t).L).length := by have h := of_decide_eq_true ‹decide ((k : Int) < ((qA7 (fin t).L).length : Int)) = true›;omega))
  all_goals (try (exact pp k (by omega)))
  all_goals (try (have hlen := qNC (t := qEI t) (K := qAB (qEI t)) [] (List.replicate (qEI t).length false) k (-1)))
  all_goals (try (have hl1 : 1 ≤ (qOB (qEI t) (qAB (qEI t)) [] (List.replicate (qEI t).length false) k (-1)).length := hlen.1))
  all_goals clear hlen
  all_goals (try (first | omega | (constructor <;> omega)))
  ·unfold qcK
   rw [qZ3 hp (show (qA7 (fin t).L).getD k qAI.dflt = i from beq_iff_eq.1 ‹((qA7 (fin t).L).getD k qAI.dflt == i) = true›) ha]
   rfl
  ·refine Rnd.mk ⟨k + 1,⟨by omega,fun j hj => ?_⟩,by omega,?_⟩
   ·rcases Nat.lt_or_ge j k with q | q
    ·exact ha j q
    ·have e : j = k := by omega
     rw [e];exact fun (q : (qA7 (fin t).L).getD k qAI.dflt = i) => absurd (beq_iff_eq.2 q) (by rw [‹((qA7 (fin t).L).getD k qAI.dflt == i) = false›];decide)
   ·all_goals exact vcA
  ·have e : k = (qA7 (fin t).L).length := by have h := of_decide_eq_false ‹decide ((k : Int) < ((qA7 (fin t).L).length : Int)) = false›;omega
   unfold qcK
   rw [qLS (fun j hj => ha j (by omega))]
instance hSub14 (t : List qAE) (i : Int) : Fn BB 116 [.agg [.rd qAC t],.int .i64 i] (qTD t) (.agg [.rd qAC (qcK t i)]) :=
 have h := hSubN t i
 ⟨h.call,h.ok⟩
end Go.Vc

namespace Go.Vc
open Go.Proofs
set_option maxRecDepth 10000
set_option maxHeartbeats 4000000
def qE8 (nm : List UInt8) (a : qAD) : Bool := a.1 == nm
def ixP {α : Type} (p : α → Bool) : List α → Int
 | [] => -1
 | x :: r => if p x = true then 0 else if ixP p r = -1 then -1 else ixP p r + 1
theorem qjE {α : Type} (p : α → Bool) (l : List α) : -1 ≤ ixP p l ∧ ixP p l < l.length ∨ ixP p l = -1 := by
 induction l with
 | nil => right;rfl
 | cons x r ih =>
  unfold ixP
  simp only [List.length_cons]
  split
  ·left;omega
  ·split
   ·right;rfl
   ·left;rename_i h;rcases ih with h2 | h2 <;> omega
theorem qjU {α : Type} {p : α → Bool} {l : List α} {k : Nat} {d : α} (hk : k < l.length) (ha : (l.take k).all (fun x => !p x) = true) (h : p (l.getD k d) = true) : ixP p l = k := by
 induction l generalizing k with
 | nil => simp at hk
 | cons x r ih =>
  cases k with
  | zero => unfold ixP;rw [if_pos (by simpa using h)];rfl
  | succ k =>
   rw [List.take_succ_cons,List.all_cons,Bool.and_eq_true,Bool.not_eq_true'] at ha
   have := ih (by simpa using hk) ha.2 (by simpa using h)
   unfold ixP
   rw [if_neg (by rw [ha.1];decide),this,if_neg (by omega)]
   rfl
theorem qbY {α : Type} {p : α → Bool} {l : List α} (ha : l.all (fun x => !p x) = true) : ixP p l = -1 := by
 induction l with
 | nil => rfl
 | cons x r ih =>
  rw [List.all_cons,Bool.and_eq_true,Bool.not_eq_true'] at ha
  unfold ixP
  rw [if_neg (by rw [ha.1];decide),ih ha.2,if_pos rfl]
def qJ8 (l : List qAD) (nm : List UInt8) : List UInt8 := match l.find? (qE8 nm) with | some a => a.2 | none => []
instance tPl1 (a b nm : List UInt8) : FnM BB 175 [.agg [.str a,.str b],.loc 0 0] [(0,.box [.str nm])] True (.bool (a == nm)) [(0,.box [.str nm])] := by
 refine FnM.intro (N := 8) [0,1,2,3] [] 1 Tryz.call175 Tryz.func175 rfl rfl (by kernel_rfl) (fun hpre => ?_)
 all_goals exact vcA
instance xIx (l : List qAD) (nm : List UInt8) : FnM BB 174 [.rd qAX l,.fn 175 [.loc 0 0]] [(0,.box [.str nm])] (l.length ≤ 100000) (.int .i64 (ixP (qE8 nm) l)) [(0,.box [.str nm])] := by
 refine FnM.intro (N := 19) [0,1,4,5,7,8,9,16] [] 1 Tryz.call174 Tryz.func174 rfl rfl (by kernel_rfl) (fun hpre => ?_)
 repeat' ((conv => whnf);first|(with_reducible first|rfl|exact qAH|exact qAG)|exact True.intro|intro _|refine WA ?_ ?_|refine WF ?_|refine W1 rfl ?_ ?_|refine W2 rfl ?_ ?_|refine W3 rfl ?_ ?_|refine W4 ?_ ?_|refine W5 rfl ?_ ?_|refine W6 ?_ ?_|refine WN ?_|refine X1 (W1 rfl ?_ ?_)|refine X1 (W2 rfl ?_ ?_)|refine X2 (W7 rfl ?_ ?_)|refine X3 (W7 rfl ?_ ?_)|refine X4 (W7 rfl ?_ ?_)|refine X5 (W7 rfl ?_ ?_))
 all_goals (try (conv => whnf))
 all_goals (try first|exact obA|refine Ob.mk ?_)
 refine LoopStop.mk (α := Nat) (fun k => [(8,.int .i64 k)]) (fun _ => []) 20 (fun k => k ≤ l.length ∧ (l.take k).all (fun x => !qE8 nm x) = true) (fun k => l.length - k) 0 (by simp) ?_ (fun k hk => ?_)
 ·all_goals exact vcA
 ·obtain ⟨hk,ha⟩ := hk
  repeat' ((conv => whnf);first|(with_reducible first|rfl|exact qAH|exact qAG)|exact True.intro|intro _|refine WA ?_ ?_|refine WF ?_|refine W1 rfl ?_ ?_|refine W2 rfl ?_ ?_|refine W3 rfl ?_ ?_|refine W4 ?_ ?_|refine W5 rfl ?_ ?_|refine W6 ?_ ?_|refine WN ?_|refine X1 (W1 rfl ?_ ?_)|refine X1 (W2 rfl ?_ ?_)|refine X2 (W7 rfl ?_ ?_)|refine X3 (W7 rfl ?_ ?_)|refine X4 (W7 rfl ?_ ?_)|refine X5 (W7 rfl ?_ ?_))
  all_goals (try (conv => whnf))
  all_goals (try first|exact obA|refine Ob.mk ?_)
  all_goals (try simp only [Int.toNat_natCast] at *)
  ·have hp := of_decide_eq_true ‹decide ((k : Int) < (l.length : Int)) = true›
   have h : ((l.getD k qAX.dflt).1 == nm) = true := ‹_›
   exact (qjU (p := qE8 nm) (d := qAX.dflt) (by omega) ha h).symm
  ·have hp := of_decide_eq_true ‹decide ((k : Int) < (l.length : Int)) = true›
   have h : ((l.getD k qAX.dflt).1 == nm) = false := ‹_›
   refine Rnd.mk ⟨k + 1,⟨by omega,?_⟩,by omega,?_⟩
   ·rw [qMX (fun x => !qE8 nm x) l k qAX.dflt (by omega),ha]
    show (true && !((l.getD k qAX.dflt).1 == nm)) = true
    rw [h];rfl
   ·all_goals exact vcA
  ·have hp := of_decide_eq_false ‹decide ((k : Int) < (l.length : Int)) = false›
   have : k = l.length := by omega
   subst this
   rw [List.take_length] at ha
   exact (qbY ha).symm
instance xPlace (l : List qAD) (nm : List UInt8) : Fn BB 140 [.rd qAX l,.str nm] (l.length ≤ 100000) (.int .i64 (ixP (qE8 nm) l)) := by
 refine Fn.intro (N := 8) [0,1,3,4] [] Tryz.call140 Tryz.func140 rfl rfl (by kernel_rfl) (fun hpre => ?_)
 all_goals exact vcA
theorem qeP (l : List qAD) (nm : List UInt8) : (decide (ixP (qE8 nm) l ≥ 0) = l.any (qE8 nm)) ∧ (0 ≤ ixP (qE8 nm) l → (ixP (qE8 nm) l).toNat < l.length ∧ (l.getD (ixP (qE8 nm) l).toNat qAX.dflt).2 = qJ8 l nm) ∧ (ixP (qE8 nm) l < 0 → qJ8 l nm = []) := by
 induction l with
 | nil => exact ⟨rfl,fun h => absurd (show (0:Int) ≤ -1 from h) (by decide),fun _ => rfl⟩
 | cons x r ih =>
  obtain ⟨i1,i2,i3⟩ := ih
  have hg := qjE (qE8 nm) r
  unfold ixP qJ8
  rw [List.any_cons,List.find?_cons]
  cases h : qE8 nm x with
  | true => simp
  | false =>
   simp only [Bool.false_eq_true,if_false,Bool.false_or]
   split
   ·rename_i q
    refine ⟨?_,fun h => absurd h (by decide),fun _ => i3 (by omega)⟩
    rw [← i1,q]
   ·rename_i q
    have h0 : 0 ≤ ixP (qE8 nm) r := by rcases hg with h | h <;> omega
    obtain ⟨j1,j2⟩ := i2 h0
    refine ⟨?_,fun _ => ?_,fun h => by omega⟩
    ·rw [← i1,Bool.eq_iff_iff];simp;omega
    ·rw [show (ixP (qE8 nm) r + 1).toNat = (ixP (qE8 nm) r).toNat + 1 by omega]
     refine ⟨by rw [List.length_cons];omega,?_⟩
     rw [List.getD_cons_succ];exact j2
instance xGet (l : List qAD) (nm : List UInt8) : Fn BB 90 [.rd qAX l,.str nm] (l.length ≤ 100000) (.tup [.str (qJ8 l nm),.bool (l.any (qE8 nm))]) := by
 refine Fn.intro (N := 17) [0,1,4,5,6,11] [] Tryz.call90 Tryz.func90 rfl rfl (by kernel_rfl) (fun hpre => ?_)
 obtain ⟨h1,h2,h3⟩ := qeP l nm
 repeat' ((conv => whnf);first|(with_reducible first|rfl|exact qAH|exact qAG)|exact True.intro|intro _|refine WA ?_ ?_|refine WF ?_|refine W1 rfl ?_ ?_|refine W2 rfl ?_ ?_|refine W3 rfl ?_ ?_|refine W4 ?_ ?_|refine W5 rfl ?_ ?_|refine W6 ?_ ?_|refine WN ?_|refine X1 (W1 rfl ?_ ?_)|refine X1 (W2 rfl ?_ ?_)|refine X2 (W7 rfl ?_ ?_)|refine X3 (W7 rfl ?_ ?_)|refine X4 (W7 rfl ?_ ?_)|refine X5 (W7 rfl ?_ ?_))
 all_goals (try (conv => whnf))
 all_goals (try first|exact obA|refine Ob.mk ?_)
 all_goals (first | (have hp := of_decide_eq_true ‹decide (ixP (qE8 nm) l ≥ 0) = true›;first | exact (h2 hp).2 | exact (h2 hp).1 | (rw [← h1];exact (‹decide (ixP (qE8 nm) l ≥ 0) = true›).symm)) | (have hp := of_decide_eq_false ‹decide (ixP (qE8 nm) l ≥ 0) = false›;first | exact (h3 (by omega)).symm | (rw [← h1];exact (‹decide (ixP (qE8 nm) l ≥ 0) = false›).symm)))
end Go.Vc

namespace Go.Vc
open Go.Proofs
set_option maxRecDepth 10000
set_option maxHeartbeats 8000000
instance gGetN (nm : List UInt8) : Fn BB 86 [.nils,.str nm] True (.tup [.str [],.bool false]) := by
 refine Fn.intro (N := 25) [0,1,4,5,6,10,19] [] Tryz.call86 Tryz.func86 rfl rfl (by kernel_rfl) (fun hpre => ?_)
 repeat' ((conv => whnf);first|(with_reducible first|rfl|exact qAH|exact qAG)|exact True.intro|intro _|refine WA ?_ ?_|refine WF ?_|refine W1 rfl ?_ ?_|refine W2 rfl ?_ ?_|refine W3 rfl ?_ ?_|refine W4 ?_ ?_|refine W5 rfl ?_ ?_|refine W6 ?_ ?_|refine WN ?_|refine X1 (W1 rfl ?_ ?_)|refine X1 (W2 rfl ?_ ?_)|refine X2 (W7 rfl ?_ ?_)|refine X3 (W7 rfl ?_ ?_)|refine X4 (W7 rfl ?_ ?_)|refine X5 (W7 rfl ?_ ?_))
 all_goals (try (conv => whnf))
 all_goals (try first|exact obA|refine Ob.mk ?_)
 refine LoopStop.mk (α := Unit) (fun k => [(6,.int .i64 0)]) (fun _ => []) 20 (fun k => True) (fun k => 0) () True.intro ?_ (fun k hk => ?_)
 ·all_goals exact vcA
 ·repeat' ((conv => whnf);first|(with_reducible first|rfl|exact qAH|exact qAG)|exact True.intro|intro _|refine WA ?_ ?_|refine WF ?_|refine W1 rfl ?_ ?_|refine W2 rfl ?_ ?_|refine W3 rfl ?_ ?_|refine W4 ?_ ?_|refine W5 rfl ?_ ?_|refine W6 ?_ ?_|refine WN ?_|refine X1 (W1 rfl ?_ ?_)|refine X1 (W2 rfl ?_ ?_)|refine X2 (W7 rfl ?_ ?_)|refine X3 (W7 rfl ?_ ?_)|refine X4 (W7 rfl ?_ ?_)|refine X5 (W7 rfl ?_ ?_))
  all_goals (try (conv => whnf))
  all_goals (try first|exact obA|refine Ob.mk ?_)
  all_goals (first | (exfalso;exact absurd ‹decide ((0 : Int) < 0) = true› (by decide)) | rfl | trace_state)
instance gAddN (a b : List UInt8) : FnM BB 320 [.nils,.agg [.str a,.str b]] [] True (.own 0) [(0,.own qAX [(a,b)])] := by
 refine FnM.intro (N := 25) [0,1,3,4,5,7,19] [] 0 Tryz.call320 Tryz.func320 rfl rfl (by kernel_rfl) (fun hpre => ?_)
 repeat' ((conv => whnf);first|(with_reducible first|rfl|exact qAH|exact qAG)|exact True.intro|intro _|refine WA ?_ ?_|refine WF ?_|refine W1 rfl ?_ ?_|refine W2 rfl ?_ ?_|refine W3 rfl ?_ ?_|refine W4 ?_ ?_|refine W5 rfl ?_ ?_|refine W6 ?_ ?_|refine WN ?_|refine X1 (W1 rfl ?_ ?_)|refine X1 (W2 rfl ?_ ?_)|refine X2 (W7 rfl ?_ ?_)|refine X3 (W7 rfl ?_ ?_)|refine X4 (W7 rfl ?_ ?_)|refine X5 (W7 rfl ?_ ?_))
 all_goals (try (conv => whnf))
 all_goals (try first|exact obA|refine Ob.mk ?_)
 ·rfl
 ·exact absurd ‹(!false) = false› (by decide)
end Go.Vc

namespace Go.Vc
open Go.Proofs
set_option maxRecDepth 10000
set_option maxHeartbeats 8000000
theorem qkS (op : List Int) (h : 0 < op.length) : op.take ((op.length : Int) - 1).toNat = op.take (op.length - 1) := by rw [show ((op.length : Int) - 1).toNat = op.length - 1 by omega]
instance xDropA (t : List qAE) (op : List Int) (md bk lx fm hd : Int) (fo sk : Bool) (ins : List UInt8) : FnM BB 281 [.loc 0 0]
  [(0,.box [.own 1,.own 2,.nils,.int .i64 md,.int .i64 bk,.int .i64 lx,.int .i64 fm,.int .i64 hd,.bool fo,.bool sk,.str ins]),(1,.own qAC t),(2,.own qAI op)] (0 < op.length ∧ op.length ≤ 1000) (.tup [])
  [(0,.box [.own 1,.own 3,.nils,.int .i64 md,.int .i64 bk,.int .i64 lx,.int .i64 fm,.int .i64 hd,.bool fo,.bool sk,.str ins]),(1,.own qAC t),(3,.own qAI (op.take (op.length - 1)))] := by
 refine FnM.intro (N := 18) [0] [(0,[0,4,0,0,0,4,0,0,0,4,4,4,4,4,0,0,4]),(1000000,[2])] 3 Tryz.call281 Tryz.func281 rfl rfl (by kernel_rfl) (fun hpre => ?_)
 have h := qkS op hpre.1
 repeat' ((conv => whnf);first|(with_reducible first|rfl|exact qAH|exact qAG)|exact True.intro|intro _|refine WA ?_ ?_|refine WF ?_|refine W1 rfl ?_ ?_|refine W2 rfl ?_ ?_|refine W3 rfl ?_ ?_|refine W4 ?_ ?_|refine W5 rfl ?_ ?_|refine W6 ?_ ?_|refine WN ?_|refine X1 (W1 rfl ?_ ?_)|refine X1 (W2 rfl ?_ ?_)|refine X2 (W7 rfl ?_ ?_)|refine X3 (W7 rfl ?_ ?_)|refine X4 (W7 rfl ?_ ?_)|refine X5 (W7 rfl ?_ ?_))
 all_goals (try (conv => whnf))
 all_goals (try first|exact obA|refine Ob.mk ?_)
 all_goals (try (first | rfl | (simp only [cast_eq,List.nil_append] at *;rw [h];done) | omega))
 all_goals trace_state
end Go.Vc

namespace Go.Vc
open Go.Proofs
set_option maxRecDepth 10000
set_option maxHeartbeats 4000000
def qOR (l : List qAE) : Bool := l.all fun n => decide (n.2.2.1.length ≤ 60)
theorem qKS {l : List qAE} (h : qOR l = true) : qXL l := fun i => by
 cases hi : isT l i with
 | false => rw [qPV hi];exact Nat.zero_le _
 | true =>
  rw [qTC hi]
  have h2 := qD3.1 hi
  unfold qOR at h
  rw [List.all_eq_true] at h
  have hm : nd l i ∈ l := by
   have e : nd l i = l[i.toNat] := by unfold nd;rw [List.getD_eq_getElem?_getD,List.getElem?_eq_getElem (by omega)];rfl
   rw [e];exact List.getElem_mem _
  simpa using h _ hm
instance s56m (t : List qAE) (l : List Int) (nm : List UInt8) : FnM BB 304 [.agg [.rd qAC t],.rd qAI l,.str nm] [] (nm.length ≤ 100000 ∧ l.length ≤ 100000) (.own 0) [(0,.own qAI (l.take (qV8 (fun x => isE t x nm) l l.length)))] := by
 refine FnM.intro (N := 29) [0,1,2,3,6,7,10,25] [] 0 Tryz.call304 Tryz.func304 rfl rfl (by kernel_rfl) (fun hpre => ?_)
 repeat' ((conv => whnf);first|(with_reducible first|rfl|exact qAH|exact qAG)|exact True.intro|intro _|refine WA ?_ ?_|refine WF ?_|refine W1 rfl ?_ ?_|refine W2 rfl ?_ ?_|refine W3 rfl ?_ ?_|refine W4 ?_ ?_|refine W5 rfl ?_ ?_|refine W6 ?_ ?_|refine WN ?_|refine X1 (W1 rfl ?_ ?_)|refine X1 (W2 rfl ?_ ?_)|refine X2 (W7 rfl ?_ ?_)|refine X3 (W7 rfl ?_ ?_)|refine X4 (W7 rfl ?_ ?_)|refine X5 (W7 rfl ?_ ?_))
 all_goals (try (conv => whnf))
 all_goals (try first|exact obA|refine Ob.mk ?_)
 refine LoopStop.mk (α := Nat) (fun n => [(1,.rd qAI (l.take n))]) (fun _ => []) 20 (fun n => n ≤ l.length ∧ qV8 (fun x => isE t x nm) l l.length = qV8 (fun x => isE t x nm) l n) (fun n => n) l.length (by simp) ?_ (fun n hC => ?_)
 ·repeat' ((conv => whnf);first|(with_reducible first|rfl|exact qAH|exact qAG)|exact True.intro|intro _|refine WA ?_ ?_|refine WF ?_|refine W1 rfl ?_ ?_|refine W2 rfl ?_ ?_|refine W3 rfl ?_ ?_|refine W4 ?_ ?_|refine W5 rfl ?_ ?_|refine W6 ?_ ?_|refine WN ?_|refine X1 (W1 rfl ?_ ?_)|refine X1 (W2 rfl ?_ ?_)|refine X2 (W7 rfl ?_ ?_)|refine X3 (W7 rfl ?_ ?_)|refine X4 (W7 rfl ?_ ?_)|refine X5 (W7 rfl ?_ ?_))
  all_goals (try (conv => whnf))
  all_goals (try first|exact obA|refine Ob.mk ?_)
  all_goals (first | rfl | (rw [List.take_of_length_le (Nat.le_refl _)];done))
 ·obtain ⟨hn,hC⟩ := hC
  have e0 := qT8 hn
  have e1 : ((n : Int) - 1).toNat = n - 1 := by omega
  have e2 : 1 < n → (l.take n).getD (n - 1) qAI.dflt = l.getD (n - 1) 0 := fun h => qP7 (by omega)
  repeat' ((conv => whnf);first|(with_reducible first|rfl|exact qAH|exact qAG)|exact True.intro|intro _|refine WA ?_ ?_|refine WF ?_|refine W1 rfl ?_ ?_|refine W2 rfl ?_ ?_|refine W3 rfl ?_ ?_|refine W4 ?_ ?_|refine W5 rfl ?_ ?_|refine W6 ?_ ?_|refine WN ?_|refine X1 (W1 rfl ?_ ?_)|refine X1 (W2 rfl ?_ ?_)|refine X2 (W7 rfl ?_ ?_)|refine X3 (W7 rfl ?_ ?_)|refine X4 (W7 rfl ?_ ?_)|refine X5 (W7 rfl ?_ ?_))
  all_goals (try (conv => whnf))
  all_goals (try rw [e0] at *)
  all_goals (try rw [e1] at *)
  all_goals (try rw [qOL] at *)
  all_goals (try first|exact obA|refine Ob.mk ?_)
  ·rename_i h
   have h1 : 1 < n := by have := of_decide_eq_true ‹decide ((n : Int) > 1) = true›;omega
   rw [e2 h1] at h
   rw [hC.trans (qaH h1 h)];rfl
  ·rename_i h
   have h1 : 1 < n := by have := of_decide_eq_true ‹decide ((n : Int) > 1) = true›;omega
   rw [e2 h1] at h
   refine Rnd.mk ⟨n - 1,⟨by omega,hC.trans (qeN h1 h)⟩,by omega,?_,?_,?_⟩
   all_goals exact vcA
  ·have h1 : ¬ 1 < n := by have := of_decide_eq_false ‹decide ((n : Int) > 1) = false›;omega
   rw [hC.trans (qaS h1)];rfl
instance s58m (t : List qAE) (l : List Int) (nm : List UInt8) : FnM BB 340 [.agg [.rd qAC t],.rd qAI l,.str nm] [] (qXL t ∧ nm.length ≤ 100000 ∧ l.length ≤ 100000) (.own 0) [(0,.own qAI (l.take (qV9 (qOM t nm) l l.length)))] := by
 refine FnM.intro (N := 44) [0,1,2,3,6,7,10,35] [(2,[0,0,0,0,0,0,0,6,6,6])] 0 Tryz.call340 Tryz.func340 rfl rfl (by kernel_rfl) (fun hpre => ?_)
 repeat' ((conv => whnf);first|(with_reducible first|rfl|exact qAH|exact qAG)|exact True.intro|intro _|refine WA ?_ ?_|refine WF ?_|refine W1 rfl ?_ ?_|refine W2 rfl ?_ ?_|refine W3 rfl ?_ ?_|refine W4 ?_ ?_|refine W5 rfl ?_ ?_|refine W6 ?_ ?_|refine WN ?_|refine X1 (W1 rfl ?_ ?_)|refine X1 (W2 rfl ?_ ?_)|refine X2 (W7 rfl ?_ ?_)|refine X3 (W7 rfl ?_ ?_)|refine X4 (W7 rfl ?_ ?_)|refine X5 (W7 rfl ?_ ?_))
 all_goals (try (conv => whnf))
 all_goals (try first|exact obA|refine Ob.mk ?_)
 refine LoopStop.mk (α := Nat) (fun n => [(1,.rd qAI (l.take n))]) (fun _ => []) 20 (fun n => n ≤ l.length ∧ qV9 (qOM t nm) l l.length = qV9 (qOM t nm) l n) (fun n => n) l.length (by simp) ?_ (fun n hC => ?_)
 ·repeat' ((conv => whnf);first|(with_reducible first|rfl|exact qAH|exact qAG)|exact True.intro|intro _|refine WA ?_ ?_|refine WF ?_|refine W1 rfl ?_ ?_|refine W2 rfl ?_ ?_|refine W3 rfl ?_ ?_|refine W4 ?_ ?_|refine W5 rfl ?_ ?_|refine W6 ?_ ?_|refine WN ?_|refine X1 (W1 rfl ?_ ?_)|refine X1 (W2 rfl ?_ ?_)|refine X2 (W7 rfl ?_ ?_)|refine X3 (W7 rfl ?_ ?_)|refine X4 (W7 rfl ?_ ?_)|refine X5 (W7 rfl ?_ ?_))
  all_goals (try (conv => whnf))
  all_goals (try first|exact obA|refine Ob.mk ?_)
  all_goals (first | rfl | (rw [List.take_of_length_le (Nat.le_refl _)];done))
 ·obtain ⟨hn,hC⟩ := hC
  have e0 := qT8 hn
  have e1 : ((n : Int) - 1).toNat = n - 1 := by omega
  have e2 : 1 < n → (l.take n).getD (n - 1) qAI.dflt = l.getD (n - 1) 0 := fun h => qP7 (by omega)
  have e3 := hpre.1 ((l.take n).getD (n - 1) qAI.dflt)
  repeat' ((conv => whnf);first|(with_reducible first|rfl|exact qAH|exact qAG)|exact True.intro|intro _|refine WA ?_ ?_|refine WF ?_|refine W1 rfl ?_ ?_|refine W2 rfl ?_ ?_|refine W3 rfl ?_ ?_|refine W4 ?_ ?_|refine W5 rfl ?_ ?_|refine W6 ?_ ?_|refine WN ?_|refine X1 (W1 rfl ?_ ?_)|refine X1 (W2 rfl ?_ ?_)|refine X2 (W7 rfl ?_ ?_)|refine X3 (W7 rfl ?_ ?_)|refine X4 (W7 rfl ?_ ?_)|refine X5 (W7 rfl ?_ ?_))
  all_goals (try (conv => whnf))
  all_goals (try rw [e0] at *)
  all_goals (try rw [e1] at *)
  all_goals (try rw [qOL] at *)
  all_goals (try first|exact obA|refine Ob.mk ?_)
  ·rename_i h1 h
   have h1 : 1 < n := by have := of_decide_eq_true h1;omega
   have h : (!qOM t nm ((l.take n).getD (n - 1) qAI.dflt)) = true := by rw [qO1];exact h
   rw [e2 h1] at h
   rw [hC.trans (qYJ h1 (by simpa using h))];rfl
  ·rename_i h1 h hz
   have h1 : 1 < n := by have := of_decide_eq_true h1;omega
   have h : (!qOM t nm ((l.take n).getD (n - 1) qAI.dflt)) = false := by rw [qO1];exact h
   rw [e2 h1] at h
   refine Rnd.mk ⟨n - 1,⟨by omega,hC.trans (qcS h1 (by simpa using h))⟩,by omega,?_,?_,?_⟩
   all_goals exact vcA
  ·rename_i h1
   have h1 : ¬ 1 < n := by have := of_decide_eq_false h1;omega
   rw [hC.trans (qbR h1)];rfl
instance (priority := 3000) qAPop (t : List qAE) (op : List Int) (nm : List UInt8) (md bk lx fm hd : Int) (fo sk : Bool) (ins : List UInt8) :
  FnM BB 239 [.loc 0 0,.str nm] [(0,.box [.own 1,.own 2,.nils,.int .i64 md,.int .i64 bk,.int .i64 lx,.int .i64 fm,.int .i64 hd,.bool fo,.bool sk,.str ins]),(1,.own qAC t),(2,.own qAI (op))] (qOR t = true ∧ nm.length ≤ 100000 ∧ op.length ≤ 100000)
   (.tup []) [(0,.box [.own 1,.own 2,.nils,.int .i64 md,.int .i64 bk,.int .i64 lx,.int .i64 fm,.int .i64 hd,.bool fo,.bool sk,.str ins]),(1,.own qAC t),(2,.own qAI (op.take (qV8 (fun x => isE t x nm) op op.length)))] := by
 refine FnM.intro (N := 17) [0,1] [(0,[0,0,0,0,1,0,0,0,1,0,3,0,0,3])] 3 Tryz.call239 Tryz.func239 rfl rfl (by kernel_rfl) (fun hpre => ?_)
 obtain ⟨h1,h2,h3⟩ := hpre
 have h1 := qKS h1
 repeat' ((conv => whnf);first|(with_reducible first|rfl|exact qAH|exact qAG)|exact True.intro|intro _|refine WA ?_ ?_|refine WF ?_|refine W1 rfl ?_ ?_|refine W2 rfl ?_ ?_|refine W3 rfl ?_ ?_|refine W4 ?_ ?_|refine W5 rfl ?_ ?_|refine W6 ?_ ?_|refine WN ?_|refine X1 (W1 rfl ?_ ?_)|refine X1 (W2 rfl ?_ ?_)|refine X2 (W7 rfl ?_ ?_)|refine X3 (W7 rfl ?_ ?_)|refine X4 (W7 rfl ?_ ?_)|refine X5 (W7 rfl ?_ ?_))
 all_goals (try (conv => whnf))
 all_goals (try first|exact obA|refine Ob.mk ?_)
 all_goals (first | exact ⟨h1,h2,h3⟩ | exact ⟨h2,h3⟩ | rfl | trace_state)
instance (priority := 3000) qAImplied (t : List qAE) (op : List Int) (nm : List UInt8) (md bk lx fm hd : Int) (fo sk : Bool) (ins : List UInt8) :
  FnM BB 282 [.loc 0 0,.str nm] [(0,.box [.own 1,.own 2,.nils,.int .i64 md,.int .i64 bk,.int .i64 lx,.int .i64 fm,.int .i64 hd,.bool fo,.bool sk,.str ins]),(1,.own qAC t),(2,.own qAI (op))] (qOR t = true ∧ nm.length ≤ 100000 ∧ op.length ≤ 100000)
   (.tup []) [(0,.box [.own 1,.own 2,.nils,.int .i64 md,.int .i64 bk,.int .i64 lx,.int .i64 fm,.int .i64 hd,.bool fo,.bool sk,.str ins]),(1,.own qAC t),(2,.own qAI (op.take (qV9 (qOM t nm) op op.length)))] := by
 refine FnM.intro (N := 17) [0,1] [(0,[0,0,0,0,1,0,0,0,1,0,3,0,0,3])] 3 Tryz.call282 Tryz.func282 rfl rfl (by kernel_rfl) (fun hpre => ?_)
 obtain ⟨h1,h2,h3⟩ := hpre
 have h1 := qKS h1
 repeat' ((conv => whnf);first|(with_reducible first|rfl|exact qAH|exact qAG)|exact True.intro|intro _|refine WA ?_ ?_|refine WF ?_|refine W1 rfl ?_ ?_|refine W2 rfl ?_ ?_|refine W3 rfl ?_ ?_|refine W4 ?_ ?_|refine W5 rfl ?_ ?_|refine W6 ?_ ?_|refine WN ?_|refine X1 (W1 rfl ?_ ?_)|refine X1 (W2 rfl ?_ ?_)|refine X2 (W7 rfl ?_ ?_)|refine X3 (W7 rfl ?_ ?_)|refine X4 (W7 rfl ?_ ?_)|refine X5 (W7 rfl ?_ ?_))
 all_goals (try (conv => whnf))
 all_goals (try first|exact obA|refine Ob.mk ?_)
 all_goals (first | exact ⟨h1,h2,h3⟩ | exact ⟨h2,h3⟩ | rfl | trace_state)
end Go.Vc

namespace Go.Vc
open Go.Proofs
set_option maxRecDepth 100000
set_option maxHeartbeats 40000000
noncomputable abbrev BA : Base := { BB with al := true }
instance (priority := 100) fnA {f : FuncId} {args : List SV} {pre : Prop} {res : SV} [h : Fn BB f args pre res] : Fn BA f args pre res := ⟨h.call,h.ok⟩
instance (priority := 100) fnmA {f : FuncId} {args : List SV} {Φ : Phi} {pre : Prop} {res : SV} {Φ' : Phi} [h : FnM BB f args Φ pre res Φ'] : FnM BA f args Φ pre res Φ' := ⟨h.call,h.ok⟩
@[simp] theorem qxF (t : TypeId) : qAA BA.P t = qAA BB.P t := rfl
noncomputable section
open Tryz
@[reducible] def iM {f : FuncId} {fn : Func} {c : Code} (N : Nat) (L : List Nat) (pl : List (Nat × List Nat)) (call : ∀ (vs : Array Value) (w : World),(callFunc f vs).run BA.P w = .ok (.enter f vs) w) (hf : BA.P.funcs[f]? = some fn) (hb : fn.body = some c) (hN : fn.ntmps = N) (hok : codeOk N pl c = true := by kernel_rfl) : Inl BA f := Inl.make (N := N) L pl call hf hb hN hok
instance : Inl BA 17 := iM 49 [0,1,2,3,4,14,37,42,48] [(1,[1,1,1,1,1,1,1,3,3,3])] call17 func17 rfl rfl
instance : Inl BA 18 := iM 72 [0,1,2,4,5,6,7,27,32,41,46,56,61,71] [] call18 func18 rfl rfl
instance : Inl BA 19 := iM 65 [0,1,2,3,4,5,6,7,8,9,10,11,34,49] [(5,[0,1,0,1,3])] call19 func19 rfl rfl
instance : Inl BA 21 := iM 32 [0,1,2,3,4,5,12,17,31] [(6,[0,1,0,1,1,0,1,0,1,1,3,3])] call21 func21 rfl rfl
instance : Inl BA 26 := iM 60 [0,1,2,4,5,6,7,8,18,36,51] [(6,[0,0,0,0,0,0,0,0,6,6])] call26 func26 rfl rfl
instance : Inl BA 27 := iM 30 [0,1,2,3,6,7,17] [] call27 func27 rfl rfl
instance : Inl BA 28 := iM 8 [0,1,2,4] [] call28 func28 rfl rfl
instance : Inl BA 33 := iM 19 [0,1,2,3,4,9] [] call33 func33 rfl rfl
instance : Inl BA 35 := iM 5 [0,1,2] [] call35 func35 rfl rfl
instance : Inl BA 40 := iM 62 [0,1,3,4,5,6,7,8,9,14,34] [(10,[0,0,0,1,0,0,1,1,3,3,3,3])] call40 func40 rfl rfl
instance : Inl BA 42 := iM 61 [0,1,2,4,5,6,7,8,9,25,28,35,41,54] [] call42 func42 rfl rfl
instance : Inl BA 44 := iM 24 [0,1,4,18] [] call44 func44 rfl rfl
instance : Inl BA 47 := iM 48 [0,1,2,4,13,31,41,47] [] call47 func47 rfl rfl
instance : Inl BA 50 := iM 35 [0,1,4,5,6,12,16,32] [] call50 func50 rfl rfl
instance : Inl BA 52 := iM 67 [0,1,2,3,4,8,9,28,30,35,65] [] call52 func52 rfl rfl
instance : Inl BA 53 := iM 26 [0,1,4,5,10,14,25] [(6,[0,0,1,1,0,0,1,1,3])] call53 func53 rfl rfl
instance : Inl BA 55 := iM 90 [0,1,2,3,4,5,6,7,8,9,15,30,51] [(6,[0,0,0,0,0,0,0,0,6,6]),(10,[1,0,1,0,1,1,1,1,0,1,0,1,1,1,3,3]),(14,[0,0,0,1,1,0,1,0,1,1,1,0,0,0,1,1,1,0,0,1,1,0,1,0,1,1,1,0,0,1,1,1,3,3,3,3])] call55 func55 rfl rfl
instance : Inl BA 59 := iM 28 [0,1,4,5,7] [(5,[0,0,0,1,0,0,0,0,1,1,1,1,1,1,3,3])] call59 func59 rfl rfl
instance : Inl BA 70 := iM 95 [0,1,2,4,5,6,7,18,56,80] [(8,[0,0,0,1,1,1,1,1,1,1,1,1,1,1,1,1,3,3,3,3,3])] call70 func70 rfl rfl
instance : Inl BA 71 := iM 16 [0,2,3,7,13] [] call71 func71 rfl rfl
instance : Inl BA 73 := iM 77 [0,1,2,4,5,6,21,46,51,76] [] call73 func73 rfl rfl
instance : Inl BA 74 := iM 4 [0] [] call74 func74 rfl rfl
instance : Inl BA 75 := iM 21 [0,1,2,5,6,7] [] call75 func75 rfl rfl
instance : Inl BA 76 := iM 53 [0,1,2,3,4,5,12,13,14,15,16,27,34] [(7,[0,1,0,0,1,1,0,0,1,1,1,1,3,0,3])] call76 func76 rfl rfl
instance : Inl BA 77 := iM 13 [0,1,2,7] [] call77 func77 rfl rfl
instance : Inl BA 78 := iM 68 [0,1,2,6,7,8,9,13,34,44] [(10,[0,0,0,1,0,1,1,1,0,1,0,1,1,1,0,1,0,1,1,1,3])] call78 func78 rfl rfl
instance : Inl BA 79 := iM 64 [0,1,2,3,4,7,10,11,20,47] [(7,[0,0,0,0,1,0,1,1,1,1,0,0,3])] call79 func79 rfl rfl
instance : Inl BA 82 := iM 71 [0,1,2,3,4,5,47,52,65] [(6,[0,1,0,1,1,0,1,0,1,1,3])] call82 func82 rfl rfl
instance : Inl BA 85 := iM 15 [0,1,2,4,5] [] call85 func85 rfl rfl
instance : Inl BA 87 := iM 65 [0,1,2,3,4,8,9,10,11,21,60] [(5,[0,0,0,0,0,0,0,0,6,6]),(6,[0,1,1,1,1,1,1,1,1,1,1,1,1,1,1,1,1,1,1,1,1,1,1,1,1,1,1,3,3])] call87 func87 rfl rfl
instance : Inl BA 92 := iM 68 [0,1,2,4,5,6,7,8,9,10,26,35,44,52,63] [(14,[0,1,0,0,1,1,3,3,3])] call92 func92 rfl rfl
instance : Inl BA 93 := iM 19 [0,1,2,4] [] call93 func93 rfl rfl
instance : Inl BA 98 := iM 22 [0,2,3,4,8,12] [] call98 func98 rfl rfl
instance : Inl BA 100 := iM 58 [0,1,2,4,5,6,7,12,16,24,42] [(9,[0,1,1,1,1,1,1,1,1,1,3,3,3])] call100 func100 rfl rfl
instance : Inl BA 101 := iM 19 [0,1,2,4] [] call101 func101 rfl rfl
instance : Inl BA 105 := iM 13 [0,2,3,10] [] call105 func105 rfl rfl
instance : Inl BA 109 := iM 8 [0,1,2,4] [] call109 func109 rfl rfl
instance : Inl BA 110 := iM 15 [0,1,2,4,5,10] [] call110 func110 rfl rfl
instance : Inl BA 114 := iM 34 [0,2,3,4,10] [] call114 func114 rfl rfl
instance : Inl BA 115 := iM 46 [0,1,4,5,6,7,35,42,44,45] [] call115 func115 rfl rfl
instance : Inl BA 123 := iM 29 [0,1,2,4,5,6,7,14] [(6,[0,0,1,0,0,1,1,3,3,3,3,3])] call123 func123 rfl rfl
instance : Inl BA 124 := iM 82 [0,1,3,4,5,6,7,18,23,54,60] [] call124 func124 rfl rfl
instance : Inl BA 125 := iM 50 [0,1,2,3,4,9,31,34,49] [(4,[0,1,0,1,0,1,1,1,1,1,1,1,1,1,3,3,3,3,3,3]),(9,[0,1,0,1,1,1,0,1,0,1,1,1,3])] call125 func125 rfl rfl
instance : Inl BA 126 := iM 34 [0,1,4,5,26] [] call126 func126 rfl rfl
instance : Inl BA 128 := iM 19 [0,1,2,4] [] call128 func128 rfl rfl
instance : Inl BA 129 := iM 13 [0,2,5] [] call129 func129 rfl rfl
instance : Inl BA 130 := iM 8 [0,2] [] call130 func130 rfl rfl
instance : Inl BA 132 := iM 26 [0,1,4] [] call132 func132 rfl rfl
instance : Inl BA 133 := iM 28 [0,1,3,4] [(3,[0,0,0,0,1,1,1,3,0,0,3]),(5000003,[3])] call133 func133 rfl rfl
instance : Inl BA 134 := iM 69 [0,1,2,3,8,34] [(3,[0,0,0,1,0,0,0,0,1,1,1,0,1,3,3,3])] call134 func134 rfl rfl
instance : Inl BA 152 := iM 63 [0,2,3,4,5,16,42,50,58] [(4,[0,0,0,0,0,0,0,0,0,0,0,0,0,0,6,6])] call152 func152 rfl rfl
instance : Inl BA 154 := iM 43 [0,1,4,5,10] [(3,[0,0,0,0,1,0,0,0,1,1,3,3,3,3]),(4,[0,0,0,0,7,0,0,0,0,4,4,4,4,4,4,4,4,4,4,4]),(3000004,[649,714,779,844,909,974,1039,1104,1169,1234])] call154 func154 rfl rfl
instance : Inl BA 155 := iM 57 [0,1,4,15,20,35,50] [] call155 func155 rfl rfl
instance : Inl BA 159 := iM 19 [0,1,4,6,10] [] call159 func159 rfl rfl
instance : Inl BA 160 := iM 19 [0,1,2] [] call160 func160 rfl rfl
instance : Inl BA 161 := iM 55 [0,2,3,4,5,6,7,8,24,31,36,42,50] [(14,[1,0,0,1,1,3])] call161 func161 rfl rfl
instance : Inl BA 162 := iM 89 [0,1,3,4,5,10,24,30,48,62,79] [] call162 func162 rfl rfl
instance : Inl BA 163 := iM 62 [0,1,4,5,6,7,9,11,14,22,26,61] [] call163 func163 rfl rfl
instance : Inl BA 164 := iM 16 [0,2,3,7,13] [] call164 func164 rfl rfl
instance : Inl BA 165 := iM 15 [0,2,3,7,14] [] call165 func165 rfl rfl
instance : Inl BA 167 := iM 64 [0,2,3,4,5,6,10,26,34,50] [] call167 func167 rfl rfl
instance : Inl BA 169 := iM 77 [0,1,4,5,6,7,14,33,38,69] [] call169 func169 rfl rfl
instance : Inl BA 182 := iM 71 [0,1,2,3,8,9,10,11,17,25,40,42,52,58,67,69,70] [] call182 func182 rfl rfl
instance : Inl BA 184 := iM 93 [0,1,2,3,8,9,10,11,12,14,16,18,27,39,49,57,71] [] call184 func184 rfl rfl
instance : Inl BA 185 := iM 38 [0,2,3,16,28] [] call185 func185 rfl rfl
instance : Inl BA 186 := iM 77 [0,1,3,4,5,23,45,63] [] call186 func186 rfl rfl
instance : Inl BA 187 := iM 132 [0,1,4,5,6,11,22,40,44,50,73,94,115] [(11,[0,0,0,0,1,0,0,0,1,1,1,1,1,3]),(13,[0,1,0,0,0,1,0,0,0,1,1,1,1,3,0,0,3]),(20,[0,1,0,0,0,1,0,0,0,1,1,1,1,3,0,0,3])] call187 func187 rfl rfl
instance : Inl BA 188 := iM 92 [0,1,4,9,22,33,41,46,72,77,85] [] call188 func188 rfl rfl
instance : Inl BA 189 := iM 55 [0,1,4,9,17,25,33,41] [] call189 func189 rfl rfl
instance : Inl BA 190 := iM 109 [0,1,4,16,42,56,65,76,87,95] [] call190 func190 rfl rfl
instance : Inl BA 191 := iM 70 [0,1,4,9,17,25,33,41,49] [] call191 func191 rfl rfl
instance : Inl BA 192 := iM 16 [0,1,2] [] call192 func192 rfl rfl
instance : Inl BA 193 := iM 48 [0,1,2,3,4,17] [] call193 func193 rfl rfl
instance : Inl BA 194 := iM 33 [0,1,2,6,7,12,20,32] [(6,[0,0,0,1,1,1,0,0,1,1,1,3])] call194 func194 rfl rfl
instance : Inl BA 197 := iM 15 [0,2,3,7,14] [] call197 func197 rfl rfl
instance : Inl BA 198 := iM 27 [0,2,3,8,21,26] [(4,[0,0,1,1,1,0,0,1,1,1,3])] call198 func198 rfl rfl
instance : Inl BA 199 := iM 38 [0,1,4,5,10,18,37] [(6,[0,0,1,1,1,0,0,1,1,1,1,1,1,1,3,3,3,3,3])] call199 func199 rfl rfl
instance : Inl BA 200 := iM 33 [0,2,3,4,10,24] [] call200 func200 rfl rfl
instance : Inl BA 201 := iM 70 [0,2,3,4,5,6,7,8,13,19,25,31,33,35,37,39,41,44,66] [] call201 func201 rfl rfl
instance : Inl BA 202 := iM 20 [0,2,16] [] call202 func202 rfl rfl
instance : Inl BA 211 := iM 23 [0,1,4,5,8,22] [(4,[0,0,0,1,0,0,0,1,0,1,1,3])] call211 func211 rfl rfl
instance : Inl BA 212 := iM 72 [0,1,2,6,7,8,9,10,15,25,42,57] [] call212 func212 rfl rfl
instance : Inl BA 213 := iM 27 [0,1,4,5,6,7,8,9,17] [] call213 func213 rfl rfl
instance : Inl BA 214 := iM 39 [0,1,4,5,6,7,8,12,22] [] call214 func214 rfl rfl
instance : Inl BA 215 := iM 73 [0,1,4,5,6,22,24,47] [(6,[0,0,0,0,0,0,0,0,0,3,3,3])] call215 func215 rfl rfl
instance : Inl BA 216 := iM 51 [0,1,2,6,18] [(4,[0,0,0,0,0,0,0,0,0,3,3,3])] call216 func216 rfl rfl
instance : Inl BA 217 := iM 51 [0,1,2,4,6,8,11,22] [] call217 func217 rfl rfl
instance : Inl BA 218 := iM 64 [0,1,4,5,6,14,35,63] [(4,[0,0,0,0,1,0,0,0,1,0,1,1,1,1,1,3]),(8,[0,0,0,0,1,0,0,0,1,0,0,1,1,3,3,3,3])] call218 func218 rfl rfl
instance : Inl BA 219 := iM 50 [0,1,2,4,6,7,8,9] [(2,[0,0,0,0,0,1,0,1,3,3,3])] call219 func219 rfl rfl
instance : Inl BA 220 := iM 43 [0,1,2,4,5,6,7,9,17,26] [] call220 func220 rfl rfl
instance : Inl BA 221 := iM 100 [0,2,3,4,32,55,64] [(2,[0,0,0,1,1,1,1,1,1,1,1,1,1,1,1,1,1,1,3,3,3]),(3,[0,0,0,1,1,1,1,1,1,1,1,1,1,1,1,1,1,1,1,1,3,3,3]),(7,[0,0,0,0,0,1,0,0,0,1,0,1,1,3,3,3,3,3]),(8,[0,0,0,0,1,0,0,0,1,0,1,1,0,3,0,0,3])] call221 func221 rfl rfl
instance : Inl BA 222 := iM 124 [0,1,4,5,14,20,23,38,43,47,50,57,67,73,78,81,86,89,99] [(32,[0,1,0,0,0,1,0,0,0,1,1,1,1,3,0,0,3])] call222 func222 rfl rfl
instance : Inl BA 223 := iM 73 [0,1,4,17,55] [(2,[0,0,0,0,1,1,1,0,0,0,1,3]),(3,[0,0,0,1,1,1,1,1,1,1,1,1,1,1,1,1,1,1,1,1,1,1,1,1,3,3]),(4,[0,0,0,0,1,1,1,0,0,0,1,3])] call223 func223 rfl rfl
instance : Inl BA 224 := iM 26 [0,1,4,9,14,22] [] call224 func224 rfl rfl
instance : Inl BA 225 := iM 78 [0,1,4,5,6,7,25,34,41,50,54,63,68,74] [] call225 func225 rfl rfl
instance : Inl BA 226 := iM 31 [0,1,4,10,15,27] [] call226 func226 rfl rfl
instance : Inl BA 227 := iM 34 [0,1,4,10,12,24] [] call227 func227 rfl rfl
instance : Inl BA 228 := iM 84 [0,1,4,5,6,11,19,48,76] [(6,[0,0,0,0,1,0,0,0,1,0,1,1,1,1,1,3]),(7,[0,0,0,1,0,0,0,1,0,1,1,0,3]),(10,[0,1,0,1,1,1,1,1,1,1,1,1,1,1,1,1,1,3,3,3])] call228 func228 rfl rfl
instance : Inl BA 230 := iM 77 [0,1,4,5,23,54] [(0,[0,0,0,1,0,0,0,1,3,3]),(10,[0,0,0,0,1,0,0,0,1,0,3,0,0,3])] call230 func230 rfl rfl
instance : Inl BA 231 := iM 122 [0,1,4,5,15,29,37,39,53,57,65,69,82,115] [] call231 func231 rfl rfl
instance : Inl BA 232 := iM 90 [0,1,4,20,29,34,40,45,49,55,57,62,71,76] [] call232 func232 rfl rfl
instance : Inl BA 233 := iM 40 [0,1,4,11,14,36] [] call233 func233 rfl rfl
instance : Inl BA 234 := iM 68 [0,1,4,5,6,11,24,31,40,45,59] [] call234 func234 rfl rfl
instance : Inl BA 235 := iM 55 [0,1,4,5,7,18,28,44,51] [] call235 func235 rfl rfl
instance : Inl BA 236 := iM 45 [0,1,4,6,17,25,29,41] [] call236 func236 rfl rfl
instance : Inl BA 237 := iM 47 [0,1,4,5,7,13,26,35,39,43] [] call237 func237 rfl rfl
instance : Inl BA 238 := iM 18 [0,1,2,6] [(1,[0,0,0,1,0,0,0,1,0,0,3,3])] call238 func238 rfl rfl
instance : Inl BA 240 := iM 63 [0,1,4,9,24,31,43,50] [] call240 func240 rfl rfl
instance : Inl BA 241 := iM 54 [0,1,4,9,35,44,51] [(2,[0,1,1,1,1,1,1,1,1,1,1,1,1,1,1,1,1,1,1,3,3])] call241 func241 rfl rfl
instance : Inl BA 242 := iM 53 [0,1,4,6,7,13,18,32] [(9,[0,0,0,0,0,0,3,3,3,3]),(10,[0,0,0,0,0,0,0,3,3,0,3])] call242 func242 rfl rfl
instance : Inl BA 243 := iM 57 [0,1,4,6,23,28,49] [] call243 func243 rfl rfl
instance : Inl BA 244 := iM 55 [0,1,4,6,7,8,18,25,41] [] call244 func244 rfl rfl
instance : Inl BA 245 := iM 64 [0,1,4,5,6,7,8,35,42,46] [] call245 func245 rfl rfl
instance : Inl BA 246 := iM 109 [0,1,4,5,6,7,8,35,42,56,101] [(8,[0,0,0,1,1,1,1,1,1,1,1,3,3]),(9,[0,1,0,0,0,1,1,0,0,0,1,1,3,0,0,3]),(11,[0,0,0,0,1,0,0,0,1,3,0,0,3])] call246 func246 rfl rfl
instance : Inl BA 247 := iM 45 [0,1,4,9,27] [] call247 func247 rfl rfl
instance : Inl BA 248 := iM 117 [0,1,4,5,6,7,19,36,54,66,74,81,86,105,110] [(2,[0,0,0,0,1,0,0,0,1,1,1,3])] call248 func248 rfl rfl
instance : Inl BA 249 := iM 10 [0,1,4] [] call249 func249 rfl rfl
instance : Inl BA 259 := iM 37 [0,1,2,6,7,9,11,20,26,33] [] call259 func259 rfl rfl
instance : Inl BA 260 := iM 151 [0,2,3,4,5,6,7,8,9,10,19,36,61,76,103,117,122,130,141] [] call260 func260 rfl rfl
instance : Inl BA 261 := iM 92 [0,1,4,5,6,7,9,28,38,42,57,64,71,85] [] call261 func261 rfl rfl
instance : Inl BA 262 := iM 77 [0,1,4,5,6,7,8,15,23,33,45,73] [] call262 func262 rfl rfl
instance : Inl BA 263 := iM 126 [0,1,4,5,6,7,8,20,31,69,114] [(2,[0,0,0,1,0,0,0,1,3,3]),(4,[0,0,0,1,1,1,0,0,0,0,1,0,0,0,1,1,1,1,1,1,1,1,3]),(5,[0,0,0,0,1,0,0,0,1,0,1,1,3,3,3,3]),(7,[0,0,0,0,1,0,0,0,1,0,1,1,3,0,3]),(9,[0,0,0,0,0,3,0,3,3,3,3,0,3]),(12,[0,0,0,0,0,3,0,3,3,3,3,0,3])] call263 func263 rfl rfl
instance : Inl BA 265 := iM 24 [0,1,4,5,9,18] [] call265 func265 rfl rfl
instance : Inl BA 267 := iM 8 [0,1,2] [] call267 func267 rfl rfl
instance : Inl BA 268 := iM 29 [0,1,2,6,7,8,15,23] [] call268 func268 rfl rfl
instance : Inl BA 269 := iM 20 [0,1,2,3,8,13] [] call269 func269 rfl rfl
instance : Inl BA 270 := iM 28 [0,2,16] [] call270 func270 rfl rfl
instance : Inl BA 271 := iM 6 [0] [] call271 func271 rfl rfl
instance : Inl BA 272 := iM 1 [0] [] call272 func272 rfl rfl
instance : Inl BA 273 := iM 206 [0,1,4,5,6,7,8,9,10,11,12,13,14,15,16,33,38,52,60,73,78,166] [(8,[0,0,0,1,0,0,0,1,0,3,3]),(22,[0,0,0,1,0,1,1,0,0,0,1,0,0,1,1,1,1,3]),(34,[0,0,0,0,1,0,0,0,1,0,1,1,0,3,0,0,3]),(5000019,[2000])] call273 func273 rfl rfl
instance : Inl BA 274 := iM 72 [0,1,4,5,6,14,30,41,71] [(9,[0,0,0,0,1,0,1,1,1,0,0,0,0,1,0,1,1,1,3])] call274 func274 rfl rfl
instance : Inl BA 275 := iM 11 [0,2] [] call275 func275 rfl rfl
instance : Inl BA 276 := iM 35 [0,1,2,6,10] [(3,[0,0,0,0,1,0,0,0,0,0,1,0,1,1,1,0,0,1,1,1,3,3,3])] call276 func276 rfl rfl
instance : Inl BA 277 := iM 11 [0,1] [] call277 func277 rfl rfl
instance : Inl BA 278 := iM 27 [0,1] [] call278 func278 rfl rfl
instance : Inl BA 279 := iM 6 [0,3] [] call279 func279 rfl rfl
instance : Inl BA 280 := iM 16 [0,1,4] [(1,[0,0,0,1,0,0,0,1,1,0,3,3])] call280 func280 rfl rfl
instance : Inl BA 283 := iM 64 [0,1,2,3,6,7,14,59] [(4,[1,0,0,1,1,1,1,1,1,1,1,1,1,1,1,1,1,1,1,1,1,1,1,1,1,1,1,1,1,1,1,1,1,1,1,1,1,1,1,1,1,3,3])] call283 func283 rfl rfl
instance : Inl BA 284 := iM 27 [0,1,4,5,6,10,18] [] call284 func284 rfl rfl
instance : Inl BA 285 := iM 31 [0,1,4,5,6,10,22] [] call285 func285 rfl rfl
instance : Inl BA 286 := iM 55 [0,1,2,3,6,7,8,9,10,11,18,27,34,43] [(5,[1,0,0,1,1,0,3])] call286 func286 rfl rfl
instance : Inl BA 287 := iM 12 [0,1,4] [] call287 func287 rfl rfl
instance : Inl BA 288 := iM 28 [0,1,4,9] [] call288 func288 rfl rfl
instance : Inl BA 289 := iM 18 [0,1,4] [] call289 func289 rfl rfl
instance : Inl BA 290 := iM 1 [0] [] call290 func290 rfl rfl
instance : Inl BA 291 := iM 50 [0,1,4,11,23,33,41] [] call291 func291 rfl rfl
instance : Inl BA 292 := iM 10 [0,2,5] [] call292 func292 rfl rfl
instance : Inl BA 293 := iM 18 [0,1,4] [] call293 func293 rfl rfl
instance : Inl BA 294 := iM 22 [0,2,3,4] [] call294 func294 rfl rfl
instance : Inl BA 295 := iM 18 [0] [(0,[0,1,0,0,0,1,0,0,0,1,1,1,1,3,0,0,3])] call295 func295 rfl rfl
instance : Inl BA 296 := iM 16 [0,1,4,5] [] call296 func296 rfl rfl
instance : Inl BA 297 := iM 23 [0,2,3,4,14] [(4,[0,0,0,0,0,0,0,0])] call297 func297 rfl rfl
instance : Inl BA 299 := iM 13 [0,1,2,4] [] call299 func299 rfl rfl
instance : Inl BA 300 := iM 22 [0,1,2,3,8,12] [] call300 func300 rfl rfl
instance : Inl BA 301 := iM 13 [0] [] call301 func301 rfl rfl
instance : Inl BA 302 := iM 20 [0,1] [] call302 func302 rfl rfl
instance : Inl BA 305 := iM 31 [0,1,14] [(1,[0,1,0,0,0,1,0,0,0,1,1,1,1,3,0,0,3])] call305 func305 rfl rfl
instance : Inl BA 306 := iM 10 [0,2,5] [] call306 func306 rfl rfl
instance : Inl BA 307 := iM 26 [0,2,3,4,5,10] [] call307 func307 rfl rfl
instance : Inl BA 308 := iM 19 [0,1,4] [] call308 func308 rfl rfl
instance : Inl BA 309 := iM 9 [0,1,4] [] call309 func309 rfl rfl
instance : Inl BA 310 := iM 44 [0,1,4,5,10,28] [] call310 func310 rfl rfl
instance : Inl BA 311 := iM 24 [0,7] [(1,[0,1,0,0,0,1,0,0,0,1,1,1,1,3,0,0,3])] call311 func311 rfl rfl
instance : Inl BA 312 := iM 1 [0] [] call312 func312 rfl rfl
instance : Inl BA 315 := iM 53 [0,1,4,5,6,7,11,21,28,36,42,48] [] call315 func315 rfl rfl
instance : Inl BA 316 := iM 51 [0,1,4,5,34] [] call316 func316 rfl rfl
instance : Inl BA 317 := iM 17 [0,2] [] call317 func317 rfl rfl
instance : Inl BA 318 := iM 18 [0,1,4,14] [] call318 func318 rfl rfl
instance : Inl BA 319 := iM 82 [0,1,4,5,6,7,8,9,10,11,42,63] [] call319 func319 rfl rfl
instance : Inl BA 321 := iM 18 [0,1,4] [] call321 func321 rfl rfl
instance : Inl BA 322 := iM 51 [0,2,3,4,5,6,7,10,13,28,44] [] call322 func322 rfl rfl
instance : Inl BA 323 := iM 46 [0,2,3,4,5,6,7,20,33] [] call323 func323 rfl rfl
instance : Inl BA 324 := iM 30 [0,1,2,6,7,15,26] [] call324 func324 rfl rfl
instance : Inl BA 325 := iM 21 [0,1,4,5,6,7] [] call325 func325 rfl rfl
instance : Inl BA 326 := iM 64 [0,2,3,4,5,6,7,8,21,26,37,48,58] [] call326 func326 rfl rfl
instance : Inl BA 327 := iM 44 [0,2,3,4,5,6,7,15,38] [] call327 func327 rfl rfl
instance : Inl BA 328 := iM 13 [0,2] [] call328 func328 rfl rfl
instance : Inl BA 331 := iM 45 [0,1,4,5,6,14,25,44] [(6,[0,0,0,0,1,0,0,0,1,0,1,1,1,1,1,3])] call331 func331 rfl rfl
instance : Inl BA 332 := iM 37 [0,1,4,5,6,15,36] [(4,[0,0,0,0,1,0,0,0,1,0,1,1,1,1,1,3])] call332 func332 rfl rfl
instance : Inl BA 333 := iM 38 [0,1,4,5,6,15,36] [(4,[0,0,0,0,1,0,0,0,1,0,1,1,1,1,1,3])] call333 func333 rfl rfl
instance : Inl BA 334 := iM 119 [0,1,2,3,8,9,10,11,12,13,14,15,36,50,62,71,106] [] call334 func334 rfl rfl
instance : Inl BA 335 := iM 25 [0,1,4,5] [(2,[0,0,0,0,1,0,1,0,1,3,3,3])] call335 func335 rfl rfl
instance : Inl BA 336 := iM 89 [0,1,2,6,7,29,41,51] [(5,[0,0,1,0,0,1,1,3]),(6,[0,0,0,1,0,0,1,1,0,3,3,3]),(7,[0,0,0,1,0,1,0,0,0,1,0,1,1,1,1,0,1,3,3,3])] call336 func336 rfl rfl
instance : Inl BA 337 := iM 22 [0,1,2] [(0,[0,0,0,0,0,0,0,0,3,0,3,3,3,3,0,3])] call337 func337 rfl rfl
instance : Inl BA 338 := iM 24 [0,1,2,6] [(2,[1,0,0,0,1,0,1,3,0,0,0,3,3])] call338 func338 rfl rfl
instance : Inl BA 339 := iM 18 [0,2,3,8,15] [] call339 func339 rfl rfl
instance : Inl BA 341 := iM 14 [0,1,2,4] [] call341 func341 rfl rfl
instance : Inl BA 342 := iM 48 [0,1,2,3,6,7,8,18] [(3,[0,1,0,1,1,0,1,0,1,1,1,1,1,3])] call342 func342 rfl rfl
instance : Inl BA 344 := iM 18 [0,1,4] [] call344 func344 rfl rfl
instance : Inl BA 345 := iM 31 [0,2] [] call345 func345 rfl rfl
instance : Inl BA 346 := iM 72 [0,1,4,5,6,7,8,12,23,29,38,64] [(7,[0,0,0,0,0,0,0])] call346 func346 rfl rfl
instance : Inl BA 347 := iM 52 [0,2,13,29,45] [] call347 func347 rfl rfl
instance : Inl BA 348 := iM 32 [0,2,8,17,27] [] call348 func348 rfl rfl
instance : Inl BA 349 := iM 29 [0,2,3,4,5,11,19,26] [] call349 func349 rfl rfl
instance : Inl BA 350 := iM 4 [0,1] [] call350 func350 rfl rfl
instance : Inl BA 352 := iM 20 [0,1,4] [] call352 func352 rfl rfl
instance : Inl BA 353 := iM 34 [0,1,4,5,6,7,11,17,33] [(8,[0,0,1,1,1,1,1,1,1,1,3,3,3])] call353 func353 rfl rfl
end
instance (priority := 3000) xkHas (t : List qAE) (l : List Int) (nm : List UInt8) (sc : Int) : Fn BA 303 [.agg [.rd qAC t],.rd qAI l,.str nm,.int .i64 sc] (qOR t = true ∧ nm.length ≤ 100000) (.bool (qh0 t l nm sc)) := ⟨(s51 t l nm sc).call,fun h => (s51 t l nm sc).ok ⟨qKS h.1,h.2⟩⟩
end Go.Vc

namespace Go.Vc
open Go.Proofs
set_option maxRecDepth 100000
set_option maxHeartbeats 40000000
set_option pp.deepTerms true
set_option pp.maxSteps 2000000
instance (priority := 5000) ZO_0 : FnM BA 154 [.loc 0 0,.loc 3 0] [(0,.box [.own 1,.own 2,.nils,.int .i64 5,.int .i64 0,.int .i64 0,.int .i64 0,.int .i64 0,.bool false,.bool false,.str [100,105,118]]),(1,.own qAC [((0 : Int),(0 : Int),([] : List UInt8),([] : List qAD),([] : List UInt8),(-1 : Int),([1] : List Int)),((1 : Int),(0 : Int),([104,116,109,108] : List UInt8),([] : List qAD),([] : List UInt8),(0 : Int),([] : List Int))]),(2,.own qAI [1]),(3,.box [.str (60 :: 102 :: 111 :: 114 :: 109 :: 32 :: 105 :: 100 :: 61 :: 102 :: 62 :: 60 :: 105 :: 110 :: 112 :: 117 :: 116 :: 62 :: 60 :: 112 :: 62 :: 60 :: 47 :: 112 :: 62 :: 60 :: 47 :: 102 :: 111 :: 114 :: 109 :: 62 :: 60 :: 105 :: 110 :: 112 :: 117 :: 116 :: 32 :: 102 :: 111 :: 114 :: 109 :: 61 :: 102 :: 62 :: 60 :: 105 :: 110 :: 112 :: 117 :: 116 :: 32 :: 102 :: 111 :: 114 :: 109 :: 61 :: 103 :: 62 :: 60 :: 105 :: 110 :: 112 :: 117 :: 116 :: 62 :: [])])] True (.agg [.int .i64 1,.str [102,111,114,109],.rd qAX [([105,100],[102])],.bool false,.str []]) [(0,.box [.own 1,.own 2,.nils,.int .i64 5,.int .i64 0,.int .i64 0,.int .i64 0,.int .i64 0,.bool false,.bool false,.str [100,105,118]]),(1,.own qAC [((0 : Int),(0 : Int),([] : List UInt8),([] : List qAD),([] : List UInt8),(-1 : Int),([1] : List Int)),((1 : Int),(0 : Int),([104,116,109,108] : List UInt8),([] : List qAD),([] : List UInt8),(0 : Int),([] : List Int))]),(2,.own qAI [1]),(3,.box [.str (60 :: 105 :: 110 :: 112 :: 117 :: 116 :: 62 :: 60 :: 112 :: 62 :: 60 :: 47 :: 112 :: 62 :: 60 :: 47 :: 102 :: 111 :: 114 :: 109 :: 62 :: 60 :: 105 :: 110 :: 112 :: 117 :: 116 :: 32 :: 102 :: 111 :: 114 :: 109 :: 61 :: 102 :: 62 :: 60 :: 105 :: 110 :: 112 :: 117 :: 116 :: 32 :: 102 :: 111 :: 114 :: 109 :: 61 :: 103 :: 62 :: 60 :: 105 :: 110 :: 112 :: 117 :: 116 :: 62 :: [])])] := by
 refine FnM.intro (N := 43) [0,1,4,5,10] [(3,[0,0,0,0,1,0,0,0,1,1,3,3,3,3]),(4,[0,0,0,0,7,0,0,0,0,4,4,4,4,4,4,4,4,4,4,4]),(3000004,[649,714,779,844,909,974,1039,1104,1169,1234])] 4 Tryz.call154 Tryz.func154 rfl rfl (by kernel_rfl) (fun hpre => ?_)
 repeat' ((conv => whnf);first|(with_reducible first|rfl|exact qAH|exact qAG)|exact True.intro|(intro hq;first|(exfalso;revert hq;decide +kernel)|clear hq|skip)|refine WA ?_ ?_|refine WF ?_|refine W1 rfl ?_ ?_|refine W2 rfl ?_ ?_|refine W3 rfl ?_ ?_|refine W4 ?_ ?_|refine W5 rfl ?_ ?_|refine W6 ?_ ?_|refine WN ?_|refine X1 (W1 rfl ?_ ?_)|refine X1 (W2 rfl ?_ ?_)|refine X2 (W7 rfl ?_ ?_)|refine X3 (W7 rfl ?_ ?_)|refine X4 (W7 rfl ?_ ?_)|refine X5 (W7 rfl ?_ ?_)|refine X7 (by conv => lhs;cbv) rfl ?_|refine X8 (by conv => lhs;cbv) ?_|refine LoopStop.ug 500 ?_|refine ZStop.dir ?_|(refine Ob.mk ?_;decide +kernel))
 all_goals (first | rfl | decide +kernel)
end Go.Vc

namespace Go.Vc
open Go.Proofs
set_option maxRecDepth 100000
set_option maxHeartbeats 40000000
set_option pp.deepTerms true
set_option pp.maxSteps 2000000
instance (priority := 5000) ZO_1 : FnM BA 155 [.loc 0 0,.loc 3 0] [(0,.box [.own 1,.own 2,.nils,.int .i64 5,.int .i64 0,.int .i64 0,.int .i64 0,.int .i64 0,.bool false,.bool false,.str [100,105,118]]),(1,.own qAC [((0 : Int),(0 : Int),([] : List UInt8),([] : List qAD),([] : List UInt8),(-1 : Int),([1] : List Int)),((1 : Int),(0 : Int),([104,116,109,108] : List UInt8),([] : List qAD),([] : List UInt8),(0 : Int),([] : List Int))]),(2,.own qAI [1]),(3,.box [.int .i64 1,.str [102,111,114,109],.rd qAX [([105,100],[102])],.bool false,.str []])] True (.bool false) [(0,.box [.own 1,.own 4,.nils,.int .i64 5,.int .i64 0,.int .i64 0,.int .i64 2,.int .i64 0,.bool false,.bool false,.str [100,105,118]]),(1,.own qAC [((0 : Int),(0 : Int),([] : List UInt8),([] : List qAD),([] : List UInt8),(-1 : Int),([1] : List Int)),((1 : Int),(0 : Int),([104,116,109,108] : List UInt8),([] : List qAD),([] : List UInt8),(0 : Int),([2] : List Int)),((1 : Int),(0 : Int),([102,111,114,109] : List UInt8),([([105,100],[102])] : List qAD),([] : List UInt8),(1 : Int),([] : List Int))]),(4,.own qAI [1,2]),(3,.box [.int .i64 1,.str [102,111,114,109],.rd qAX [([105,100],[102])],.bool false,.str []])] := by
 refine FnM.intro (N := 57) [0,1,4,15,20,35,50] [] 4 Tryz.call155 Tryz.func155 rfl rfl (by kernel_rfl) (fun hpre => ?_)
 repeat' ((conv => whnf);first|(with_reducible first|rfl|exact qAH|exact qAG)|exact True.intro|(intro hq;first|(exfalso;revert hq;decide +kernel)|clear hq|skip)|refine WA ?_ ?_|refine WF ?_|refine W1 rfl ?_ ?_|refine W2 rfl ?_ ?_|refine W3 rfl ?_ ?_|refine W4 ?_ ?_|refine W5 rfl ?_ ?_|refine W6 ?_ ?_|refine WN ?_|refine X1 (W1 rfl ?_ ?_)|refine X1 (W2 rfl ?_ ?_)|refine X2 (W7 rfl ?_ ?_)|refine X3 (W7 rfl ?_ ?_)|refine X4 (W7 rfl ?_ ?_)|refine X5 (W7 rfl ?_ ?_)|refine X7 (by conv => lhs;cbv) rfl ?_|refine X8 (by conv => lhs;cbv) ?_|refine LoopStop.ug 500 ?_|refine ZStop.dir ?_|(refine Ob.mk ?_;decide +kernel))
 all_goals (first | rfl | decide +kernel)
end Go.Vc

namespace Go.Vc
open Go.Proofs
set_option maxRecDepth 100000
set_option maxHeartbeats 40000000
set_option pp.deepTerms true
set_option pp.maxSteps 2000000
instance (priority := 5000) ZO_2 : FnM BA 154 [.loc 0 0,.loc 3 0] [(0,.box [.own 1,.own 2,.nils,.int .i64 5,.int .i64 0,.int .i64 0,.int .i64 2,.int .i64 0,.bool false,.bool false,.str [100,105,118]]),(1,.own qAC [((0 : Int),(0 : Int),([] : List UInt8),([] : List qAD),([] : List UInt8),(-1 : Int),([1] : List Int)),((1 : Int),(0 : Int),([104,116,109,108] : List UInt8),([] : List qAD),([] : List UInt8),(0 : Int),([2] : List Int)),((1 : Int),(0 : Int),([102,111,114,109] : List UInt8),([([105,100],[102])] : List qAD),([] : List UInt8),(1 : Int),([] : List Int))]),(2,.own qAI [1,2]),(3,.box [.str (60 :: 105 :: 110 :: 112 :: 117 :: 116 :: 62 :: 60 :: 112 :: 62 :: 60 :: 47 :: 112 :: 62 :: 60 :: 47 :: 102 :: 111 :: 114 :: 109 :: 62 :: 60 :: 105 :: 110 :: 112 :: 117 :: 116 :: 32 :: 102 :: 111 :: 114 :: 109 :: 61 :: 102 :: 62 :: 60 :: 105 :: 110 :: 112 :: 117 :: 116 :: 32 :: 102 :: 111 :: 114 :: 109 :: 61 :: 103 :: 62 :: 60 :: 105 :: 110 :: 112 :: 117 :: 116 :: 62 :: [])])] True (.agg [.int .i64 1,.str [105,110,112,117,116],.nils,.bool false,.str []]) [(0,.box [.own 1,.own 2,.nils,.int .i64 5,.int .i64 0,.int .i64 0,.int .i64 2,.int .i64 0,.bool false,.bool false,.str [100,105,118]]),(1,.own qAC [((0 : Int),(0 : Int),([] : List UInt8),([] : List qAD),([] : List UInt8),(-1 : Int),([1] : List Int)),((1 : Int),(0 : Int),([104,116,109,108] : List UInt8),([] : List qAD),([] : List UInt8),(0 : Int),([2] : List Int)),((1 : Int),(0 : Int),([102,111,114,109] : List UInt8),([([105,100],[102])] : List qAD),([] : List UInt8),(1 : Int),([] : List Int))]),(2,.own qAI [1,2]),(3,.box [.str (60 :: 112 :: 62 :: 60 :: 47 :: 112 :: 62 :: 60 :: 47 :: 102 :: 111 :: 114 :: 109 :: 62 :: 60 :: 105 :: 110 :: 112 :: 117 :: 116 :: 32 :: 102 :: 111 :: 114 :: 109 :: 61 :: 102 :: 62 :: 60 :: 105 :: 110 :: 112 :: 117 :: 116 :: 32 :: 102 :: 111 :: 114 :: 109 :: 61 :: 103 :: 62 :: 60 :: 105 :: 110 :: 112 :: 117 :: 116 :: 62 :: [])])] := by
 refine FnM.intro (N := 43) [0,1,4,5,10] [(3,[0,0,0,0,1,0,0,0,1,1,3,3,3,3]),(4,[0,0,0,0,7,0,0,0,0,4,4,4,4,4,4,4,4,4,4,4]),(3000004,[649,714,779,844,909,974,1039,1104,1169,1234])] 4 Tryz.call154 Tryz.func154 rfl rfl (by kernel_rfl) (fun hpre => ?_)
 repeat' ((conv => whnf);first|(with_reducible first|rfl|exact qAH|exact qAG)|exact True.intro|(intro hq;first|(exfalso;revert hq;decide +kernel)|clear hq|skip)|refine WA ?_ ?_|refine WF ?_|refine W1 rfl ?_ ?_|refine W2 rfl ?_ ?_|refine W3 rfl ?_ ?_|refine W4 ?_ ?_|refine W5 rfl ?_ ?_|refine W6 ?_ ?_|refine WN ?_|refine X1 (W1 rfl ?_ ?_)|refine X1 (W2 rfl ?_ ?_)|refine X2 (W7 rfl ?_ ?_)|refine X3 (W7 rfl ?_ ?_)|refine X4 (W7 rfl ?_ ?_)|refine X5 (W7 rfl ?_ ?_)|refine X7 (by conv => lhs;cbv) rfl ?_|refine X8 (by conv => lhs;cbv) ?_|refine LoopStop.ug 500 ?_|refine ZStop.dir ?_|(refine Ob.mk ?_;decide +kernel))
 all_goals (first | rfl | decide +kernel)
end Go.Vc

namespace Go.Vc
open Go.Proofs
set_option maxRecDepth 100000
set_option maxHeartbeats 40000000
set_option pp.deepTerms true
set_option pp.maxSteps 2000000
instance (priority := 5000) ZO_3 : FnM BA 155 [.loc 0 0,.loc 3 0] [(0,.box [.own 1,.own 2,.nils,.int .i64 5,.int .i64 0,.int .i64 0,.int .i64 2,.int .i64 0,.bool false,.bool false,.str [100,105,118]]),(1,.own qAC [((0 : Int),(0 : Int),([] : List UInt8),([] : List qAD),([] : List UInt8),(-1 : Int),([1] : List Int)),((1 : Int),(0 : Int),([104,116,109,108] : List UInt8),([] : List qAD),([] : List UInt8),(0 : Int),([2] : List Int)),((1 : Int),(0 : Int),([102,111,114,109] : List UInt8),([([105,100],[102])] : List qAD),([] : List UInt8),(1 : Int),([] : List Int))]),(2,.own qAI [1,2]),(3,.box [.int .i64 1,.str [105,110,112,117,116],.nils,.bool false,.str []])] True (.bool false) [(0,.box [.own 1,.own 4,.nils,.int .i64 5,.int .i64 0,.int .i64 0,.int .i64 2,.int .i64 0,.bool false,.bool false,.str [100,105,118]]),(1,.own qAC [((0 : Int),(0 : Int),([] : List UInt8),([] : List qAD),([] : List UInt8),(-1 : Int),([1] : List Int)),((1 : Int),(0 : Int),([104,116,109,108] : List UInt8),([] : List qAD),([] : List UInt8),(0 : Int),([2] : List Int)),((1 : Int),(0 : Int),([102,111,114,109] : List UInt8),([([105,100],[102])] : List qAD),([] : List UInt8),(1 : Int),([3] : List Int)),((1 : Int),(0 : Int),([105,110,112,117,116] : List UInt8),([] : List qAD),([] : List UInt8),(2 : Int),([] : List Int))]),(4,.own qAI [1,2]),(3,.box [.int .i64 1,.str [105,110,112,117,116],.nils,.bool false,.str []])] := by
 refine FnM.intro (N := 57) [0,1,4,15,20,35,50] [] 4 Tryz.call155 Tryz.func155 rfl rfl (by kernel_rfl) (fun hpre => ?_)
 repeat' ((conv => whnf);first|(with_reducible first|rfl|exact qAH|exact qAG)|exact True.intro|(intro hq;first|(exfalso;revert hq;decide +kernel)|clear hq|skip)|refine WA ?_ ?_|refine WF ?_|refine W1 rfl ?_ ?_|refine W2 rfl ?_ ?_|refine W3 rfl ?_ ?_|refine W4 ?_ ?_|refine W5 rfl ?_ ?_|refine W6 ?_ ?_|refine WN ?_|refine X1 (W1 rfl ?_ ?_)|refine X1 (W2 rfl ?_ ?_)|refine X2 (W7 rfl ?_ ?_)|refine X3 (W7 rfl ?_ ?_)|refine X4 (W7 rfl ?_ ?_)|refine X5 (W7 rfl ?_ ?_)|refine X7 (by conv => lhs;cbv) rfl ?_|refine X8 (by conv => lhs;cbv) ?_|refine LoopStop.ug 500 ?_|refine ZStop.dir ?_|(refine Ob.mk ?_;decide +kernel))
 all_goals (first | rfl | decide +kernel)
end Go.Vc

namespace Go.Vc
open Go.Proofs
set_option maxRecDepth 100000
set_option maxHeartbeats 40000000
set_option pp.deepTerms true
set_option pp.maxSteps 2000000
instance (priority := 5000) ZO_4 : FnM BA 154 [.loc 0 0,.loc 3 0] [(0,.box [.own 1,.own 2,.nils,.int .i64 5,.int .i64 0,.int .i64 0,.int .i64 2,.int .i64 0,.bool false,.bool false,.str [100,105,118]]),(1,.own qAC [((0 : Int),(0 : Int),([] : List UInt8),([] : List qAD),([] : List UInt8),(-1 : Int),([1] : List Int)),((1 : Int),(0 : Int),([104,116,109,108] : List UInt8),([] : List qAD),([] : List UInt8),(0 : Int),([2] : List Int)),((1 : Int),(0 : Int),([102,111,114,109] : List UInt8),([([105,100],[102])] : List qAD),([] : List UInt8),(1 : Int),([3] : List Int)),((1 : Int),(0 : Int),([105,110,112,117,116] : List UInt8),([] : List qAD),([] : List UInt8),(2 : Int),([] : List Int))]),(2,.own qAI [1,2]),(3,.box [.str (60 :: 112 :: 62 :: 60 :: 47 :: 112 :: 62 :: 60 :: 47 :: 102 :: 111 :: 114 :: 109 :: 62 :: 60 :: 105 :: 110 :: 112 :: 117 :: 116 :: 32 :: 102 :: 111 :: 114 :: 109 :: 61 :: 102 :: 62 :: 60 :: 105 :: 110 :: 112 :: 117 :: 116 :: 32 :: 102 :: 111 :: 114 :: 109 :: 61 :: 103 :: 62 :: 60 :: 105 :: 110 :: 112 :: 117 :: 116 :: 62 :: [])])] True (.agg [.int .i64 1,.str [112],.nils,.bool false,.str []]) [(0,.box [.own 1,.own 2,.nils,.int .i64 5,.int .i64 0,.int .i64 0,.int .i64 2,.int .i64 0,.bool false,.bool false,.str [100,105,118]]),(1,.own qAC [((0 : Int),(0 : Int),([] : List UInt8),([] : List qAD),([] : List UInt8),(-1 : Int),([1] : List Int)),((1 : Int),(0 : Int),([104,116,109,108] : List UInt8),([] : List qAD),([] : List UInt8),(0 : Int),([2] : List Int)),((1 : Int),(0 : Int),([102,111,114,109] : List UInt8),([([105,100],[102])] : List qAD),([] : List UInt8),(1 : Int),([3] : List Int)),((1 : Int),(0 : Int),([105,110,112,117,116] : List UInt8),([] : List qAD),([] : List UInt8),(2 : Int),([] : List Int))]),(2,.own qAI [1,2]),(3,.box [.str (60 :: 47 :: 112 :: 62 :: 60 :: 47 :: 102 :: 111 :: 114 :: 109 :: 62 :: 60 :: 105 :: 110 :: 112 :: 117 :: 116 :: 32 :: 102 :: 111 :: 114 :: 109 :: 61 :: 102 :: 62 :: 60 :: 105 :: 110 :: 112 :: 117 :: 116 :: 32 :: 102 :: 111 :: 114 :: 109 :: 61 :: 103 :: 62 :: 60 :: 105 :: 110 :: 112 :: 117 :: 116 :: 62 :: [])])] := by
 refine FnM.intro (N := 43) [0,1,4,5,10] [(3,[0,0,0,0,1,0,0,0,1,1,3,3,3,3]),(4,[0,0,0,0,7,0,0,0,0,4,4,4,4,4,4,4,4,4,4,4]),(3000004,[649,714,779,844,909,974,1039,1104,1169,1234])] 4 Tryz.call154 Tryz.func154 rfl rfl (by kernel_rfl) (fun hpre => ?_)
 repeat' ((conv => whnf);first|(with_reducible first|rfl|exact qAH|exact qAG)|exact True.intro|(intro hq;first|(exfalso;revert hq;decide +kernel)|clear hq|skip)|refine WA ?_ ?_|refine WF ?_|refine W1 rfl ?_ ?_|refine W2 rfl ?_ ?_|refine W3 rfl ?_ ?_|refine W4 ?_ ?_|refine W5 rfl ?_ ?_|refine W6 ?_ ?_|refine WN ?_|refine X1 (W1 rfl ?_ ?_)|refine X1 (W2 rfl ?_ ?_)|refine X2 (W7 rfl ?_ ?_)|refine X3 (W7 rfl ?_ ?_)|refine X4 (W7 rfl ?_ ?_)|refine X5 (W7 rfl ?_ ?_)|refine X7 (by conv => lhs;cbv) rfl ?_|refine X8 (by conv => lhs;cbv) ?_|refine LoopStop.ug 500 ?_|refine ZStop.dir ?_|(refine Ob.mk ?_;decide +kernel))
 all_goals (first | rfl | decide +kernel)
end Go.Vc

namespace Go.Vc
open Go.Proofs
set_option maxRecDepth 100000
set_option maxHeartbeats 40000000
set_option pp.deepTerms true
set_option pp.maxSteps 2000000
instance (priority := 5000) ZO_5 : FnM BA 155 [.loc 0 0,.loc 3 0] [(0,.box [.own 1,.own 2,.nils,.int .i64 5,.int .i64 0,.int .i64 0,.int .i64 2,.int .i64 0,.bool false,.bool false,.str [100,105,118]]),(1,.own qAC [((0 : Int),(0 : Int),([] : List UInt8),([] : List qAD),([] : List UInt8),(-1 : Int),([1] : List Int)),((1 : Int),(0 : Int),([104,116,109,108] : List UInt8),([] : List qAD),([] : List UInt8),(0 : Int),([2] : List Int)),((1 : Int),(0 : Int),([102,111,114,109] : List UInt8),([([105,100],[102])] : List qAD),([] : List UInt8),(1 : Int),([3] : List Int)),((1 : Int),(0 : Int),([105,110,112,117,116] : List UInt8),([] : List qAD),([] : List UInt8),(2 : Int),([] : List Int))]),(2,.own qAI [1,2]),(3,.box [.int .i64 1,.str [112],.nils,.bool false,.str []])] True (.bool false) [(0,.box [.own 1,.own 4,.nils,.int .i64 5,.int .i64 0,.int .i64 0,.int .i64 2,.int .i64 0,.bool false,.bool false,.str [100,105,118]]),(1,.own qAC [((0 : Int),(0 : Int),([] : List UInt8),([] : List qAD),([] : List UInt8),(-1 : Int),([1] : List Int)),((1 : Int),(0 : Int),([104,116,109,108] : List UInt8),([] : List qAD),([] : List UInt8),(0 : Int),([2] : List Int)),((1 : Int),(0 : Int),([102,111,114,109] : List UInt8),([([105,100],[102])] : List qAD),([] : List UInt8),(1 : Int),([3,4] : List Int)),((1 : Int),(0 : Int),([105,110,112,117,116] : List UInt8),([] : List qAD),([] : List UInt8),(2 : Int),([] : List Int)),((1 : Int),(0 : Int),([112] : List UInt8),([] : List qAD),([] : List UInt8),(2 : Int),([] : List Int))]),(4,.own qAI [1,2,4]),(3,.box [.int .i64 1,.str [112],.nils,.bool false,.str []])] := by
 refine FnM.intro (N := 57) [0,1,4,15,20,35,50] [] 4 Tryz.call155 Tryz.func155 rfl rfl (by kernel_rfl) (fun hpre => ?_)
 repeat' ((conv => whnf);first|(with_reducible first|rfl|exact qAH|exact qAG)|exact True.intro|(intro hq;first|(exfalso;revert hq;decide +kernel)|clear hq|skip)|refine WA ?_ ?_|refine WF ?_|refine W1 rfl ?_ ?_|refine W2 rfl ?_ ?_|refine W3 rfl ?_ ?_|refine W4 ?_ ?_|refine W5 rfl ?_ ?_|refine W6 ?_ ?_|refine WN ?_|refine X1 (W1 rfl ?_ ?_)|refine X1 (W2 rfl ?_ ?_)|refine X2 (W7 rfl ?_ ?_)|refine X3 (W7 rfl ?_ ?_)|refine X4 (W7 rfl ?_ ?_)|refine X5 (W7 rfl ?_ ?_)|refine X7 (by conv => lhs;cbv) rfl ?_|refine X8 (by conv => lhs;cbv) ?_|refine LoopStop.ug 500 ?_|refine ZStop.dir ?_|(refine Ob.mk ?_;decide +kernel))
 all_goals (first | rfl | decide +kernel)
end Go.Vc

namespace Go.Vc
open Go.Proofs
set_option maxRecDepth 100000
set_option maxHeartbeats 40000000
set_option pp.deepTerms true
set_option pp.maxSteps 2000000
instance (priority := 5000) ZO_6 : FnM BA 154 [.loc 0 0,.loc 3 0] [(0,.box [.own 1,.own 2,.nils,.int .i64 5,.int .i64 0,.int .i64 0,.int .i64 2,.int .i64 0,.bool false,.bool false,.str [100,105,118]]),(1,.own qAC [((0 : Int),(0 : Int),([] : List UInt8),([] : List qAD),([] : List UInt8),(-1 : Int),([1] : List Int)),((1 : Int),(0 : Int),([104,116,109,108] : List UInt8),([] : List qAD),([] : List UInt8),(0 : Int),([2] : List Int)),((1 : Int),(0 : Int),([102,111,114,109] : List UInt8),([([105,100],[102])] : List qAD),([] : List UInt8),(1 : Int),([3,4] : List Int)),((1 : Int),(0 : Int),([105,110,112,117,116] : List UInt8),([] : List qAD),([] : List UInt8),(2 : Int),([] : List Int)),((1 : Int),(0 : Int),([112] : List UInt8),([] : List qAD),([] : List UInt8),(2 : Int),([] : List Int))]),(2,.own qAI [1,2,4]),(3,.box [.str (60 :: 47 :: 112 :: 62 :: 60 :: 47 :: 102 :: 111 :: 114 :: 109 :: 62 :: 60 :: 105 :: 110 :: 112 :: 117 :: 116 :: 32 :: 102 :: 111 :: 114 :: 109 :: 61 :: 102 :: 62 :: 60 :: 105 :: 110 :: 112 :: 117 :: 116 :: 32 :: 102 :: 111 :: 114 :: 109 :: 61 :: 103 :: 62 :: 60 :: 105 :: 110 :: 112 :: 117 :: 116 :: 62 :: [])])] True (.agg [.int .i64 2,.str [112],.nils,.bool false,.str []]) [(0,.box [.own 1,.own 2,.nils,.int .i64 5,.int .i64 0,.int .i64 0,.int .i64 2,.int .i64 0,.bool false,.bool false,.str [100,105,118]]),(1,.own qAC [((0 : Int),(0 : Int),([] : List UInt8),([] : List qAD),([] : List UInt8),(-1 : Int),([1] : List Int)),((1 : Int),(0 : Int),([104,116,109,108] : List UInt8),([] : List qAD),([] : List UInt8),(0 : Int),([2] : List Int)),((1 : Int),(0 : Int),([102,111,114,109] : List UInt8),([([105,100],[102])] : List qAD),([] : List UInt8),(1 : Int),([3,4] : List Int)),((1 : Int),(0 : Int),([105,110,112,117,116] : List UInt8),([] : List qAD),([] : List UInt8),(2 : Int),([] : List Int)),((1 : Int),(0 : Int),([112] : List UInt8),([] : List qAD),([] : List UInt8),(2 : Int),([] : List Int))]),(2,.own qAI [1,2,4]),(3,.box [.str (60 :: 47 :: 102 :: 111 :: 114 :: 109 :: 62 :: 60 :: 105 :: 110 :: 112 :: 117 :: 116 :: 32 :: 102 :: 111 :: 114 :: 109 :: 61 :: 102 :: 62 :: 60 :: 105 :: 110 :: 112 :: 117 :: 116 :: 32 :: 102 :: 111 :: 114 :: 109 :: 61 :: 103 :: 62 :: 60 :: 105 :: 110 :: 112 :: 117 :: 116 :: 62 :: [])])] := by
 refine FnM.intro (N := 43) [0,1,4,5,10] [(3,[0,0,0,0,1,0,0,0,1,1,3,3,3,3]),(4,[0,0,0,0,7,0,0,0,0,4,4,4,4,4,4,4,4,4,4,4]),(3000004,[649,714,779,844,909,974,1039,1104,1169,1234])] 4 Tryz.call154 Tryz.func154 rfl rfl (by kernel_rfl) (fun hpre => ?_)
 repeat' ((conv => whnf);first|(with_reducible first|rfl|exact qAH|exact qAG)|exact True.intro|(intro hq;first|(exfalso;revert hq;decide +kernel)|clear hq|skip)|refine WA ?_ ?_|refine WF ?_|refine W1 rfl ?_ ?_|refine W2 rfl ?_ ?_|refine W3 rfl ?_ ?_|refine W4 ?_ ?_|refine W5 rfl ?_ ?_|refine W6 ?_ ?_|refine WN ?_|refine X1 (W1 rfl ?_ ?_)|refine X1 (W2 rfl ?_ ?_)|refine X2 (W7 rfl ?_ ?_)|refine X3 (W7 rfl ?_ ?_)|refine X4 (W7 rfl ?_ ?_)|refine X5 (W7 rfl ?_ ?_)|refine X7 (by conv => lhs;cbv) rfl ?_|refine X8 (by conv => lhs;cbv) ?_|refine LoopStop.ug 500 ?_|refine ZStop.dir ?_|(refine Ob.mk ?_;decide +kernel))
 all_goals (first | rfl | decide +kernel)
end Go.Vc

namespace Go.Vc
open Go.Proofs
set_option maxRecDepth 100000
set_option maxHeartbeats 40000000
set_option pp.deepTerms true
set_option pp.maxSteps 2000000
instance (priority := 5000) ZO_7 : FnM BA 155 [.loc 0 0,.loc 3 0] [(0,.box [.own 1,.own 2,.nils,.int .i64 5,.int .i64 0,.int .i64 0,.int .i64 2,.int .i64 0,.bool false,.bool false,.str [100,105,118]]),(1,.own qAC [((0 : Int),(0 : Int),([] : List UInt8),([] : List qAD),([] : List UInt8),(-1 : Int),([1] : List Int)),((1 : Int),(0 : Int),([104,116,109,108] : List UInt8),([] : List qAD),([] : List UInt8),(0 : Int),([2] : List Int)),((1 : Int),(0 : Int),([102,111,114,109] : List UInt8),([([105,100],[102])] : List qAD),([] : List UInt8),(1 : Int),([3,4] : List Int)),((1 : Int),(0 : Int),([105,110,112,117,116] : List UInt8),([] : List qAD),([] : List UInt8),(2 : Int),([] : List Int)),((1 : Int),(0 : Int),([112] : List UInt8),([] : List qAD),([] : List UInt8),(2 : Int),([] : List Int))]),(2,.own qAI [1,2,4]),(3,.box [.int .i64 2,.str [112],.nils,.bool false,.str []])] True (.bool false) [(0,.box [.own 1,.own 2,.nils,.int .i64 5,.int .i64 0,.int .i64 0,.int .i64 2,.int .i64 0,.bool false,.bool false,.str [100,105,118]]),(1,.own qAC [((0 : Int),(0 : Int),([] : List UInt8),([] : List qAD),([] : List UInt8),(-1 : Int),([1] : List Int)),((1 : Int),(0 : Int),([104,116,109,108] : List UInt8),([] : List qAD),([] : List UInt8),(0 : Int),([2] : List Int)),((1 : Int),(0 : Int),([102,111,114,109] : List UInt8),([([105,100],[102])] : List qAD),([] : List UInt8),(1 : Int),([3,4] : List Int)),((1 : Int),(0 : Int),([105,110,112,117,116] : List UInt8),([] : List qAD),([] : List UInt8),(2 : Int),([] : List Int)),((1 : Int),(0 : Int),([112] : List UInt8),([] : List qAD),([] : List UInt8),(2 : Int),([] : List Int))]),(2,.own qAI [1,2]),(3,.box [.int .i64 2,.str [112],.nils,.bool false,.str []])] := by
 refine FnM.intro (N := 57) [0,1,4,15,20,35,50] [] 4 Tryz.call155 Tryz.func155 rfl rfl (by kernel_rfl) (fun hpre => ?_)
 repeat' ((conv => whnf);first|(with_reducible first|rfl|exact qAH|exact qAG)|exact True.intro|(intro hq;first|(exfalso;revert hq;decide +kernel)|clear hq|skip)|refine WA ?_ ?_|refine WF ?_|refine W1 rfl ?_ ?_|refine W2 rfl ?_ ?_|refine W3 rfl ?_ ?_|refine W4 ?_ ?_|refine W5 rfl ?_ ?_|refine W6 ?_ ?_|refine WN ?_|refine X1 (W1 rfl ?_ ?_)|refine X1 (W2 rfl ?_ ?_)|refine X2 (W7 rfl ?_ ?_)|refine X3 (W7 rfl ?_ ?_)|refine X4 (W7 rfl ?_ ?_)|refine X5 (W7 rfl ?_ ?_)|refine X7 (by conv => lhs;cbv) rfl ?_|refine X8 (by conv => lhs;cbv) ?_|refine LoopStop.ug 500 ?_|refine ZStop.dir ?_|(refine Ob.mk ?_;decide +kernel))
 all_goals (first | rfl | decide +kernel)
end Go.Vc

namespace Go.Vc
open Go.Proofs
set_option maxRecDepth 100000
set_option maxHeartbeats 40000000
set_option pp.deepTerms true
set_option pp.maxSteps 2000000
instance (priority := 5000) ZO_8 : FnM BA 154 [.loc 0 0,.loc 3 0] [(0,.box [.own 1,.own 2,.nils,.int .i64 5,.int .i64 0,.int .i64 0,.int .i64 2,.int .i64 0,.bool false,.bool false,.str [100,105,118]]),(1,.own qAC [((0 : Int),(0 : Int),([] : List UInt8),([] : List qAD),([] : List UInt8),(-1 : Int),([1] : List Int)),((1 : Int),(0 : Int),([104,116,109,108] : List UInt8),([] : List qAD),([] : List UInt8),(0 : Int),([2] : List Int)),((1 : Int),(0 : Int),([102,111,114,109] : List UInt8),([([105,100],[102])] : List qAD),([] : List UInt8),(1 : Int),([3,4] : List Int)),((1 : Int),(0 : Int),([105,110,112,117,116] : List UInt8),([] : List qAD),([] : List UInt8),(2 : Int),([] : List Int)),((1 : Int),(0 : Int),([112] : List UInt8),([] : List qAD),([] : List UInt8),(2 : Int),([] : List Int))]),(2,.own qAI [1,2]),(3,.box [.str (60 :: 47 :: 102 :: 111 :: 114 :: 109 :: 62 :: 60 :: 105 :: 110 :: 112 :: 117 :: 116 :: 32 :: 102 :: 111 :: 114 :: 109 :: 61 :: 102 :: 62 :: 60 :: 105 :: 110 :: 112 :: 117 :: 116 :: 32 :: 102 :: 111 :: 114 :: 109 :: 61 :: 103 :: 62 :: 60 :: 105 :: 110 :: 112 :: 117 :: 116 :: 62 :: [])])] True (.agg [.int .i64 2,.str [102,111,114,109],.nils,.bool false,.str []]) [(0,.box [.own 1,.own 2,.nils,.int .i64 5,.int .i64 0,.int .i64 0,.int .i64 2,.int .i64 0,.bool false,.bool false,.str [100,105,118]]),(1,.own qAC [((0 : Int),(0 : Int),([] : List UInt8),([] : List qAD),([] : List UInt8),(-1 : Int),([1] : List Int)),((1 : Int),(0 : Int),([104,116,109,108] : List UInt8),([] : List qAD),([] : List UInt8),(0 : Int),([2] : List Int)),((1 : Int),(0 : Int),([102,111,114,109] : List UInt8),([([105,100],[102])] : List qAD),([] : List UInt8),(1 : Int),([3,4] : List Int)),((1 : Int),(0 : Int),([105,110,112,117,116] : List UInt8),([] : List qAD),([] : List UInt8),(2 : Int),([] : List Int)),((1 : Int),(0 : Int),([112] : List UInt8),([] : List qAD),([] : List UInt8),(2 : Int),([] : List Int))]),(2,.own qAI [1,2]),(3,.box [.str [60,105,110,112,117,116,32,102,111,114,109,61,102,62,60,105,110,112,117,116,32,102,111,114,109,61,103,62,60,105,110,112,117,116,62]])] := by
 refine FnM.intro (N := 43) [0,1,4,5,10] [(3,[0,0,0,0,1,0,0,0,1,1,3,3,3,3]),(4,[0,0,0,0,7,0,0,0,0,4,4,4,4,4,4,4,4,4,4,4]),(3000004,[649,714,779,844,909,974,1039,1104,1169,1234])] 4 Tryz.call154 Tryz.func154 rfl rfl (by kernel_rfl) (fun hpre => ?_)
 repeat' ((conv => whnf);first|(with_reducible first|rfl|exact qAH|exact qAG)|exact True.intro|(intro hq;first|(exfalso;revert hq;decide +kernel)|clear hq|skip)|refine WA ?_ ?_|refine WF ?_|refine W1 rfl ?_ ?_|refine W2 rfl ?_ ?_|refine W3 rfl ?_ ?_|refine W4 ?_ ?_|refine W5 rfl ?_ ?_|refine W6 ?_ ?_|refine WN ?_|refine X1 (W1 rfl ?_ ?_)|refine X1 (W2 rfl ?_ ?_)|refine X2 (W7 rfl ?_ ?_)|refine X3 (W7 rfl ?_ ?_)|refine X4 (W7 rfl ?_ ?_)|refine X5 (W7 rfl ?_ ?_)|refine X7 (by conv => lhs;cbv) rfl ?_|refine X8 (by conv => lhs;cbv) ?_|refine LoopStop.ug 500 ?_|refine ZStop.dir ?_|(refine Ob.mk ?_;decide +kernel))
 all_goals (first | rfl | decide +kernel)
end Go.Vc

namespace Go.Vc
open Go.Proofs
set_option maxRecDepth 100000
set_option maxHeartbeats 40000000
set_option pp.deepTerms true
set_option pp.maxSteps 2000000
instance (priority := 5000) ZO_9 : FnM BA 155 [.loc 0 0,.loc 3 0] [(0,.box [.own 1,.own 2,.nils,.int .i64 5,.int .i64 0,.int .i64 0,.int .i64 2,.int .i64 0,.bool false,.bool false,.str [100,105,118]]),(1,.own qAC [((0 : Int),(0 : Int),([] : List UInt8),([] : List qAD),([] : List UInt8),(-1 : Int),([1] : List Int)),((1 : Int),(0 : Int),([104,116,109,108] : List UInt8),([] : List qAD),([] : List UInt8),(0 : Int),([2] : List Int)),((1 : Int),(0 : Int),([102,111,114,109] : List UInt8),([([105,100],[102])] : List qAD),([] : List UInt8),(1 : Int),([3,4] : List Int)),((1 : Int),(0 : Int),([105,110,112,117,116] : List UInt8),([] : List qAD),([] : List UInt8),(2 : Int),([] : List Int)),((1 : Int),(0 : Int),([112] : List UInt8),([] : List qAD),([] : List UInt8),(2 : Int),([] : List Int))]),(2,.own qAI [1,2]),(3,.box [.int .i64 2,.str [102,111,114,109],.nils,.bool false,.str []])] True (.bool false) [(0,.box [.own 1,.own 4,.nils,.int .i64 5,.int .i64 0,.int .i64 0,.int .i64 0,.int .i64 0,.bool false,.bool false,.str [100,105,118]]),(1,.own qAC [((0 : Int),(0 : Int),([] : List UInt8),([] : List qAD),([] : List UInt8),(-1 : Int),([1] : List Int)),((1 : Int),(0 : Int),([104,116,109,108] : List UInt8),([] : List qAD),([] : List UInt8),(0 : Int),([2] : List Int)),((1 : Int),(0 : Int),([102,111,114,109] : List UInt8),([([105,100],[102])] : List qAD),([] : List UInt8),(1 : Int),([3,4] : List Int)),((1 : Int),(0 : Int),([105,110,112,117,116] : List UInt8),([] : List qAD),([] : List UInt8),(2 : Int),([] : List Int)),((1 : Int),(0 : Int),([112] : List UInt8),([] : List qAD),([] : List UInt8),(2 : Int),([] : List Int))]),(4,.own qAI [1]),(3,.box [.int .i64 2,.str [102,111,114,109],.nils,.bool false,.str []])] := by
 refine FnM.intro (N := 57) [0,1,4,15,20,35,50] [] 4 Tryz.call155 Tryz.func155 rfl rfl (by kernel_rfl) (fun hpre => ?_)
 repeat' ((conv => whnf);first|(with_reducible first|rfl|exact qAH|exact qAG)|exact True.intro|(intro hq;first|(exfalso;revert hq;decide +kernel)|clear hq|skip)|refine WA ?_ ?_|refine WF ?_|refine W1 rfl ?_ ?_|refine W2 rfl ?_ ?_|refine W3 rfl ?_ ?_|refine W4 ?_ ?_|refine W5 rfl ?_ ?_|refine W6 ?_ ?_|refine WN ?_|refine X1 (W1 rfl ?_ ?_)|refine X1 (W2 rfl ?_ ?_)|refine X2 (W7 rfl ?_ ?_)|refine X3 (W7 rfl ?_ ?_)|refine X4 (W7 rfl ?_ ?_)|refine X5 (W7 rfl ?_ ?_)|refine X7 (by conv => lhs;cbv) rfl ?_|refine X8 (by conv => lhs;cbv) ?_|refine LoopStop.ug 500 ?_|refine ZStop.dir ?_|(refine Ob.mk ?_;decide +kernel))
 all_goals (first | rfl | decide +kernel)
end Go.Vc

namespace Go.Vc
open Go.Proofs
set_option maxRecDepth 100000
set_option maxHeartbeats 40000000
set_option pp.deepTerms true
set_option pp.maxSteps 2000000
instance (priority := 5000) ZO_10 : FnM BA 154 [.loc 0 0,.loc 3 0] [(0,.box [.own 1,.own 2,.nils,.int .i64 5,.int .i64 0,.int .i64 0,.int .i64 0,.int .i64 0,.bool false,.bool false,.str [100,105,118]]),(1,.own qAC [((0 : Int),(0 : Int),([] : List UInt8),([] : List qAD),([] : List UInt8),(-1 : Int),([1] : List Int)),((1 : Int),(0 : Int),([104,116,109,108] : List UInt8),([] : List qAD),([] : List UInt8),(0 : Int),([2] : List Int)),((1 : Int),(0 : Int),([102,111,114,109] : List UInt8),([([105,100],[102])] : List qAD),([] : List UInt8),(1 : Int),([3,4] : List Int)),((1 : Int),(0 : Int),([105,110,112,117,116] : List UInt8),([] : List qAD),([] : List UInt8),(2 : Int),([] : List Int)),((1 : Int),(0 : Int),([112] : List UInt8),([] : List qAD),([] : List UInt8),(2 : Int),([] : List Int))]),(2,.own qAI [1]),(3,.box [.str [60,105,110,112,117,116,32,102,111,114,109,61,102,62,60,105,110,112,117,116,32,102,111,114,109,61,103,62,60,105,110,112,117,116,62]])] True (.agg [.int .i64 1,.str [105,110,112,117,116],.rd qAX [([102,111,114,109],[102])],.bool false,.str []]) [(0,.box [.own 1,.own 2,.nils,.int .i64 5,.int .i64 0,.int .i64 0,.int .i64 0,.int .i64 0,.bool false,.bool false,.str [100,105,118]]),(1,.own qAC [((0 : Int),(0 : Int),([] : List UInt8),([] : List qAD),([] : List UInt8),(-1 : Int),([1] : List Int)),((1 : Int),(0 : Int),([104,116,109,108] : List UInt8),([] : List qAD),([] : List UInt8),(0 : Int),([2] : List Int)),((1 : Int),(0 : Int),([102,111,114,109] : List UInt8),([([105,100],[102])] : List qAD),([] : List UInt8),(1 : Int),([3,4] : List Int)),((1 : Int),(0 : Int),([105,110,112,117,116] : List UInt8),([] : List qAD),([] : List UInt8),(2 : Int),([] : List Int)),((1 : Int),(0 : Int),([112] : List UInt8),([] : List qAD),([] : List UInt8),(2 : Int),([] : List Int))]),(2,.own qAI [1]),(3,.box [.str [60,105,110,112,117,116,32,102,111,114,109,61,103,62,60,105,110,112,117,116,62]])] := by
 refine FnM.intro (N := 43) [0,1,4,5,10] [(3,[0,0,0,0,1,0,0,0,1,1,3,3,3,3]),(4,[0,0,0,0,7,0,0,0,0,4,4,4,4,4,4,4,4,4,4,4]),(3000004,[649,714,779,844,909,974,1039,1104,1169,1234])] 4 Tryz.call154 Tryz.func154 rfl rfl (by kernel_rfl) (fun hpre => ?_)
 repeat' ((conv => whnf);first|(with_reducible first|rfl|exact qAH|exact qAG)|exact True.intro|(intro hq;first|(exfalso;revert hq;decide +kernel)|clear hq|skip)|refine WA ?_ ?_|refine WF ?_|refine W1 rfl ?_ ?_|refine W2 rfl ?_ ?_|refine W3 rfl ?_ ?_|refine W4 ?_ ?_|refine W5 rfl ?_ ?_|refine W6 ?_ ?_|refine WN ?_|refine X1 (W1 rfl ?_ ?_)|refine X1 (W2 rfl ?_ ?_)|refine X2 (W7 rfl ?_ ?_)|refine X3 (W7 rfl ?_ ?_)|refine X4 (W7 rfl ?_ ?_)|refine X5 (W7 rfl ?_ ?_)|refine X7 (by conv => lhs;cbv) rfl ?_|refine X8 (by conv => lhs;cbv) ?_|refine LoopStop.ug 500 ?_|refine ZStop.dir ?_|(refine Ob.mk ?_;decide +kernel))
 all_goals (first | rfl | decide +kernel)
end Go.Vc

namespace Go.Vc
open Go.Proofs
set_option maxRecDepth 100000
set_option maxHeartbeats 40000000
set_option pp.deepTerms true
set_option pp.maxSteps 2000000
instance (priority := 5000) ZO_11 : FnM BA 155 [.loc 0 0,.loc 3 0] [(0,.box [.own 1,.own 2,.nils,.int .i64 5,.int .i64 0,.int .i64 0,.int .i64 0,.int .i64 0,.bool false,.bool false,.str [100,105,118]]),(1,.own qAC [((0 : Int),(0 : Int),([] : List UInt8),([] : List qAD),([] : List UInt8),(-1 : Int),([1] : List Int)),((1 : Int),(0 : Int),([104,116,109,108] : List UInt8),([] : List qAD),([] : List UInt8),(0 : Int),([2] : List Int)),((1 : Int),(0 : Int),([102,111,114,109] : List UInt8),([([105,100],[102])] : List qAD),([] : List UInt8),(1 : Int),([3,4] : List Int)),((1 : Int),(0 : Int),([105,110,112,117,116] : List UInt8),([] : List qAD),([] : List UInt8),(2 : Int),([] : List Int)),((1 : Int),(0 : Int),([112] : List UInt8),([] : List qAD),([] : List UInt8),(2 : Int),([] : List Int))]),(2,.own qAI [1]),(3,.box [.int .i64 1,.str [105,110,112,117,116],.rd qAX [([102,111,114,109],[102])],.bool false,.str []])] True (.bool false) [(0,.box [.own 1,.own 4,.nils,.int .i64 5,.int .i64 0,.int .i64 0,.int .i64 0,.int .i64 0,.bool false,.bool false,.str [100,105,118]]),(1,.own qAC [((0 : Int),(0 : Int),([] : List UInt8),([] : List qAD),([] : List UInt8),(-1 : Int),([1] : List Int)),((1 : Int),(0 : Int),([104,116,109,108] : List UInt8),([] : List qAD),([] : List UInt8),(0 : Int),([2,5] : List Int)),((1 : Int),(0 : Int),([102,111,114,109] : List UInt8),([([105,100],[102])] : List qAD),([] : List UInt8),(1 : Int),([3,4] : List Int)),((1 : Int),(0 : Int),([105,110,112,117,116] : List UInt8),([] : List qAD),([] : List UInt8),(2 : Int),([] : List Int)),((1 : Int),(0 : Int),([112] : List UInt8),([] : List qAD),([] : List UInt8),(2 : Int),([] : List Int)),((1 : Int),(0 : Int),([105,110,112,117,116] : List UInt8),([([102,111,114,109],[102])] : List qAD),([] : List UInt8),(1 : Int),([] : List Int))]),(4,.own qAI [1]),(3,.box [.int .i64 1,.str [105,110,112,117,116],.rd qAX [([102,111,114,109],[102])],.bool false,.str []])] := by
 refine FnM.intro (N := 57) [0,1,4,15,20,35,50] [] 4 Tryz.call155 Tryz.func155 rfl rfl (by kernel_rfl) (fun hpre => ?_)
 repeat' ((conv => whnf);first|(with_reducible first|rfl|exact qAH|exact qAG)|exact True.intro|(intro hq;first|(exfalso;revert hq;decide +kernel)|clear hq|skip)|refine WA ?_ ?_|refine WF ?_|refine W1 rfl ?_ ?_|refine W2 rfl ?_ ?_|refine W3 rfl ?_ ?_|refine W4 ?_ ?_|refine W5 rfl ?_ ?_|refine W6 ?_ ?_|refine WN ?_|refine X1 (W1 rfl ?_ ?_)|refine X1 (W2 rfl ?_ ?_)|refine X2 (W7 rfl ?_ ?_)|refine X3 (W7 rfl ?_ ?_)|refine X4 (W7 rfl ?_ ?_)|refine X5 (W7 rfl ?_ ?_)|refine X7 (by conv => lhs;cbv) rfl ?_|refine X8 (by conv => lhs;cbv) ?_|refine LoopStop.ug 500 ?_|refine ZStop.dir ?_|(refine Ob.mk ?_;decide +kernel))
 all_goals (first | rfl | decide +kernel)
end Go.Vc

namespace Go.Vc
open Go.Proofs
set_option maxRecDepth 100000
set_option maxHeartbeats 40000000
set_option pp.deepTerms true
set_option pp.maxSteps 2000000
instance (priority := 5000) ZO_12 : FnM BA 154 [.loc 0 0,.loc 3 0] [(0,.box [.own 1,.own 2,.nils,.int .i64 5,.int .i64 0,.int .i64 0,.int .i64 0,.int .i64 0,.bool false,.bool false,.str [100,105,118]]),(1,.own qAC [((0 : Int),(0 : Int),([] : List UInt8),([] : List qAD),([] : List UInt8),(-1 : Int),([1] : List Int)),((1 : Int),(0 : Int),([104,116,109,108] : List UInt8),([] : List qAD),([] : List UInt8),(0 : Int),([2,5] : List Int)),((1 : Int),(0 : Int),([102,111,114,109] : List UInt8),([([105,100],[102])] : List qAD),([] : List UInt8),(1 : Int),([3,4] : List Int)),((1 : Int),(0 : Int),([105,110,112,117,116] : List UInt8),([] : List qAD),([] : List UInt8),(2 : Int),([] : List Int)),((1 : Int),(0 : Int),([112] : List UInt8),([] : List qAD),([] : List UInt8),(2 : Int),([] : List Int)),((1 : Int),(0 : Int),([105,110,112,117,116] : List UInt8),([([102,111,114,109],[102])] : List qAD),([] : List UInt8),(1 : Int),([] : List Int))]),(2,.own qAI [1]),(3,.box [.str [60,105,110,112,117,116,32,102,111,114,109,61,103,62,60,105,110,112,117,116,62]])] True (.agg [.int .i64 1,.str [105,110,112,117,116],.rd qAX [([102,111,114,109],[103])],.bool false,.str []]) [(0,.box [.own 1,.own 2,.nils,.int .i64 5,.int .i64 0,.int .i64 0,.int .i64 0,.int .i64 0,.bool false,.bool false,.str [100,105,118]]),(1,.own qAC [((0 : Int),(0 : Int),([] : List UInt8),([] : List qAD),([] : List UInt8),(-1 : Int),([1] : List Int)),((1 : Int),(0 : Int),([104,116,109,108] : List UInt8),([] : List qAD),([] : List UInt8),(0 : Int),([2,5] : List Int)),((1 : Int),(0 : Int),([102,111,114,109] : List UInt8),([([105,100],[102])] : List qAD),([] : List UInt8),(1 : Int),([3,4] : List Int)),((1 : Int),(0 : Int),([105,110,112,117,116] : List UInt8),([] : List qAD),([] : List UInt8),(2 : Int),([] : List Int)),((1 : Int),(0 : Int),([112] : List UInt8),([] : List qAD),([] : List UInt8),(2 : Int),([] : List Int)),((1 : Int),(0 : Int),([105,110,112,117,116] : List UInt8),([([102,111,114,109],[102])] : List qAD),([] : List UInt8),(1 : Int),([] : List Int))]),(2,.own qAI [1]),(3,.box [.str [60,105,110,112,117,116,62]])] := by
 refine FnM.intro (N := 43) [0,1,4,5,10] [(3,[0,0,0,0,1,0,0,0,1,1,3,3,3,3]),(4,[0,0,0,0,7,0,0,0,0,4,4,4,4,4,4,4,4,4,4,4]),(3000004,[649,714,779,844,909,974,1039,1104,1169,1234])] 4 Tryz.call154 Tryz.func154 rfl rfl (by kernel_rfl) (fun hpre => ?_)
 repeat' ((conv => whnf);first|(with_reducible first|rfl|exact qAH|exact qAG)|exact True.intro|(intro hq;first|(exfalso;revert hq;decide +kernel)|clear hq|skip)|refine WA ?_ ?_|refine WF ?_|refine W1 rfl ?_ ?_|refine W2 rfl ?_ ?_|refine W3 rfl ?_ ?_|refine W4 ?_ ?_|refine W5 rfl ?_ ?_|refine W6 ?_ ?_|refine WN ?_|refine X1 (W1 rfl ?_ ?_)|refine X1 (W2 rfl ?_ ?_)|refine X2 (W7 rfl ?_ ?_)|refine X3 (W7 rfl ?_ ?_)|refine X4 (W7 rfl ?_ ?_)|refine X5 (W7 rfl ?_ ?_)|refine X7 (by conv => lhs;cbv) rfl ?_|refine X8 (by conv => lhs;cbv) ?_|refine LoopStop.ug 500 ?_|refine ZStop.dir ?_|(refine Ob.mk ?_;decide +kernel))
 all_goals (first | rfl | decide +kernel)
end Go.Vc

namespace Go.Vc
open Go.Proofs
set_option maxRecDepth 100000
set_option maxHeartbeats 40000000
set_option pp.deepTerms true
set_option pp.maxSteps 2000000
instance (priority := 5000) ZO_13 : FnM BA 155 [.loc 0 0,.loc 3 0] [(0,.box [.own 1,.own 2,.nils,.int .i64 5,.int .i64 0,.int .i64 0,.int .i64 0,.int .i64 0,.bool false,.bool false,.str [100,105,118]]),(1,.own qAC [((0 : Int),(0 : Int),([] : List UInt8),([] : List qAD),([] : List UInt8),(-1 : Int),([1] : List Int)),((1 : Int),(0 : Int),([104,116,109,108] : List UInt8),([] : List qAD),([] : List UInt8),(0 : Int),([2,5] : List Int)),((1 : Int),(0 : Int),([102,111,114,109] : List UInt8),([([105,100],[102])] : List qAD),([] : List UInt8),(1 : Int),([3,4] : List Int)),((1 : Int),(0 : Int),([105,110,112,117,116] : List UInt8),([] : List qAD),([] : List UInt8),(2 : Int),([] : List Int)),((1 : Int),(0 : Int),([112] : List UInt8),([] : List qAD),([] : List UInt8),(2 : Int),([] : List Int)),((1 : Int),(0 : Int),([105,110,112,117,116] : List UInt8),([([102,111,114,109],[102])] : List qAD),([] : List UInt8),(1 : Int),([] : List Int))]),(2,.own qAI [1]),(3,.box [.int .i64 1,.str [105,110,112,117,116],.rd qAX [([102,111,114,109],[103])],.bool false,.str []])] True (.bool false) [(0,.box [.own 1,.own 4,.nils,.int .i64 5,.int .i64 0,.int .i64 0,.int .i64 0,.int .i64 0,.bool false,.bool false,.str [100,105,118]]),(1,.own qAC [((0 : Int),(0 : Int),([] : List UInt8),([] : List qAD),([] : List UInt8),(-1 : Int),([1] : List Int)),((1 : Int),(0 : Int),([104,116,109,108] : List UInt8),([] : List qAD),([] : List UInt8),(0 : Int),([2,5,6] : List Int)),((1 : Int),(0 : Int),([102,111,114,109] : List UInt8),([([105,100],[102])] : List qAD),([] : List UInt8),(1 : Int),([3,4] : List Int)),((1 : Int),(0 : Int),([105,110,112,117,116] : List UInt8),([] : List qAD),([] : List UInt8),(2 : Int),([] : List Int)),((1 : Int),(0 : Int),([112] : List UInt8),([] : List qAD),([] : List UInt8),(2 : Int),([] : List Int)),((1 : Int),(0 : Int),([105,110,112,117,116] : List UInt8),([([102,111,114,109],[102])] : List qAD),([] : List UInt8),(1 : Int),([] : List Int)),((1 : Int),(0 : Int),([105,110,112,117,116] : List UInt8),([([102,111,114,109],[103])] : List qAD),([] : List UInt8),(1 : Int),([] : List Int))]),(4,.own qAI [1]),(3,.box [.int .i64 1,.str [105,110,112,117,116],.rd qAX [([102,111,114,109],[103])],.bool false,.str []])] := by
 refine FnM.intro (N := 57) [0,1,4,15,20,35,50] [] 4 Tryz.call155 Tryz.func155 rfl rfl (by kernel_rfl) (fun hpre => ?_)
 repeat' ((conv => whnf);first|(with_reducible first|rfl|exact qAH|exact qAG)|exact True.intro|(intro hq;first|(exfalso;revert hq;decide +kernel)|clear hq|skip)|refine WA ?_ ?_|refine WF ?_|refine W1 rfl ?_ ?_|refine W2 rfl ?_ ?_|refine W3 rfl ?_ ?_|refine W4 ?_ ?_|refine W5 rfl ?_ ?_|refine W6 ?_ ?_|refine WN ?_|refine X1 (W1 rfl ?_ ?_)|refine X1 (W2 rfl ?_ ?_)|refine X2 (W7 rfl ?_ ?_)|refine X3 (W7 rfl ?_ ?_)|refine X4 (W7 rfl ?_ ?_)|refine X5 (W7 rfl ?_ ?_)|refine X7 (by conv => lhs;cbv) rfl ?_|refine X8 (by conv => lhs;cbv) ?_|refine LoopStop.ug 500 ?_|refine ZStop.dir ?_|(refine Ob.mk ?_;decide +kernel))
 all_goals (first | rfl | decide +kernel)
end Go.Vc

namespace Go.Vc
open Go.Proofs
set_option maxRecDepth 100000
set_option maxHeartbeats 40000000
set_option pp.deepTerms true
set_option pp.maxSteps 2000000
instance (priority := 5000) ZO_14 : FnM BA 154 [.loc 0 0,.loc 3 0] [(0,.box [.own 1,.own 2,.nils,.int .i64 5,.int .i64 0,.int .i64 0,.int .i64 0,.int .i64 0,.bool false,.bool false,.str [100,105,118]]),(1,.own qAC [((0 : Int),(0 : Int),([] : List UInt8),([] : List qAD),([] : List UInt8),(-1 : Int),([1] : List Int)),((1 : Int),(0 : Int),([104,116,109,108] : List UInt8),([] : List qAD),([] : List UInt8),(0 : Int),([2,5,6] : List Int)),((1 : Int),(0 : Int),([102,111,114,109] : List UInt8),([([105,100],[102])] : List qAD),([] : List UInt8),(1 : Int),([3,4] : List Int)),((1 : Int),(0 : Int),([105,110,112,117,116] : List UInt8),([] : List qAD),([] : List UInt8),(2 : Int),([] : List Int)),((1 : Int),(0 : Int),([112] : List UInt8),([] : List qAD),([] : List UInt8),(2 : Int),([] : List Int)),((1 : Int),(0 : Int),([105,110,112,117,116] : List UInt8),([([102,111,114,109],[102])] : List qAD),([] : List UInt8),(1 : Int),([] : List Int)),((1 : Int),(0 : Int),([105,110,112,117,116] : List UInt8),([([102,111,114,109],[103])] : List qAD),([] : List UInt8),(1 : Int),([] : List Int))]),(2,.own qAI [1]),(3,.box [.str [60,105,110,112,117,116,62]])] True (.agg [.int .i64 1,.str [105,110,112,117,116],.nils,.bool false,.str []]) [(0,.box [.own 1,.own 2,.nils,.int .i64 5,.int .i64 0,.int .i64 0,.int .i64 0,.int .i64 0,.bool false,.bool false,.str [100,105,118]]),(1,.own qAC [((0 : Int),(0 : Int),([] : List UInt8),([] : List qAD),([] : List UInt8),(-1 : Int),([1] : List Int)),((1 : Int),(0 : Int),([104,116,109,108] : List UInt8),([] : List qAD),([] : List UInt8),(0 : Int),([2,5,6] : List Int)),((1 : Int),(0 : Int),([102,111,114,109] : List UInt8),([([105,100],[102])] : List qAD),([] : List UInt8),(1 : Int),([3,4] : List Int)),((1 : Int),(0 : Int),([105,110,112,117,116] : List UInt8),([] : List qAD),([] : List UInt8),(2 : Int),([] : List Int)),((1 : Int),(0 : Int),([112] : List UInt8),([] : List qAD),([] : List UInt8),(2 : Int),([] : List Int)),((1 : Int),(0 : Int),([105,110,112,117,116] : List UInt8),([([102,111,114,109],[102])] : List qAD),([] : List UInt8),(1 : Int),([] : List Int)),((1 : Int),(0 : Int),([105,110,112,117,116] : List UInt8),([([102,111,114,109],[103])] : List qAD),([] : List UInt8),(1 : Int),([] : List Int))]),(2,.own qAI [1]),(3,.box [.str []])] := by
 refine FnM.intro (N := 43) [0,1,4,5,10] [(3,[0,0,0,0,1,0,0,0,1,1,3,3,3,3]),(4,[0,0,0,0,7,0,0,0,0,4,4,4,4,4,4,4,4,4,4,4]),(3000004,[649,714,779,844,909,974,1039,1104,1169,1234])] 4 Tryz.call154 Tryz.func154 rfl rfl (by kernel_rfl) (fun hpre => ?_)
 repeat' ((conv => whnf);first|(with_reducible first|rfl|exact qAH|exact qAG)|exact True.intro|(intro hq;first|(exfalso;revert hq;decide +kernel)|clear hq|skip)|refine WA ?_ ?_|refine WF ?_|refine W1 rfl ?_ ?_|refine W2 rfl ?_ ?_|refine W3 rfl ?_ ?_|refine W4 ?_ ?_|refine W5 rfl ?_ ?_|refine W6 ?_ ?_|refine WN ?_|refine X1 (W1 rfl ?_ ?_)|refine X1 (W2 rfl ?_ ?_)|refine X2 (W7 rfl ?_ ?_)|refine X3 (W7 rfl ?_ ?_)|refine X4 (W7 rfl ?_ ?_)|refine X5 (W7 rfl ?_ ?_)|refine X7 (by conv => lhs;cbv) rfl ?_|refine X8 (by conv => lhs;cbv) ?_|refine LoopStop.ug 500 ?_|refine ZStop.dir ?_|(refine Ob.mk ?_;decide +kernel))
 all_goals (first | rfl | decide +kernel)
end Go.Vc

namespace Go.Vc
open Go.Proofs
set_option maxRecDepth 100000
set_option maxHeartbeats 40000000
set_option pp.deepTerms true
set_option pp.maxSteps 2000000
instance (priority := 5000) ZO_15 : FnM BA 155 [.loc 0 0,.loc 3 0] [(0,.box [.own 1,.own 2,.nils,.int .i64 5,.int .i64 0,.int .i64 0,.int .i64 0,.int .i64 0,.bool false,.bool false,.str [100,105,118]]),(1,.own qAC [((0 : Int),(0 : Int),([] : List UInt8),([] : List qAD),([] : List UInt8),(-1 : Int),([1] : List Int)),((1 : Int),(0 : Int),([104,116,109,108] : List UInt8),([] : List qAD),([] : List UInt8),(0 : Int),([2,5,6] : List Int)),((1 : Int),(0 : Int),([102,111,114,109] : List UInt8),([([105,100],[102])] : List qAD),([] : List UInt8),(1 : Int),([3,4] : List Int)),((1 : Int),(0 : Int),([105,110,112,117,116] : List UInt8),([] : List qAD),([] : List UInt8),(2 : Int),([] : List Int)),((1 : Int),(0 : Int),([112] : List UInt8),([] : List qAD),([] : List UInt8),(2 : Int),([] : List Int)),((1 : Int),(0 : Int),([105,110,112,117,116] : List UInt8),([([102,111,114,109],[102])] : List qAD),([] : List UInt8),(1 : Int),([] : List Int)),((1 : Int),(0 : Int),([105,110,112,117,116] : List UInt8),([([102,111,114,109],[103])] : List qAD),([] : List UInt8),(1 : Int),([] : List Int))]),(2,.own qAI [1]),(3,.box [.int .i64 1,.str [105,110,112,117,116],.nils,.bool false,.str []])] True (.bool false) [(0,.box [.own 1,.own 4,.nils,.int .i64 5,.int .i64 0,.int .i64 0,.int .i64 0,.int .i64 0,.bool false,.bool false,.str [100,105,118]]),(1,.own qAC [((0 : Int),(0 : Int),([] : List UInt8),([] : List qAD),([] : List UInt8),(-1 : Int),([1] : List Int)),((1 : Int),(0 : Int),([104,116,109,108] : List UInt8),([] : List qAD),([] : List UInt8),(0 : Int),([2,5,6,7] : List Int)),((1 : Int),(0 : Int),([102,111,114,109] : List UInt8),([([105,100],[102])] : List qAD),([] : List UInt8),(1 : Int),([3,4] : List Int)),((1 : Int),(0 : Int),([105,110,112,117,116] : List UInt8),([] : List qAD),([] : List UInt8),(2 : Int),([] : List Int)),((1 : Int),(0 : Int),([112] : List UInt8),([] : List qAD),([] : List UInt8),(2 : Int),([] : List Int)),((1 : Int),(0 : Int),([105,110,112,117,116] : List UInt8),([([102,111,114,109],[102])] : List qAD),([] : List UInt8),(1 : Int),([] : List Int)),((1 : Int),(0 : Int),([105,110,112,117,116] : List UInt8),([([102,111,114,109],[103])] : List qAD),([] : List UInt8),(1 : Int),([] : List Int)),((1 : Int),(0 : Int),([105,110,112,117,116] : List UInt8),([] : List qAD),([] : List UInt8),(1 : Int),([] : List Int))]),(4,.own qAI [1]),(3,.box [.int .i64 1,.str [105,110,112,117,116],.nils,.bool false,.str []])] := by
 refine FnM.intro (N := 57) [0,1,4,15,20,35,50] [] 4 Tryz.call155 Tryz.func155 rfl rfl (by kernel_rfl) (fun hpre => ?_)
 repeat' ((conv => whnf);first|(with_reducible first|rfl|exact qAH|exact qAG)|exact True.intro|(intro hq;first|(exfalso;revert hq;decide +kernel)|clear hq|skip)|refine WA ?_ ?_|refine WF ?_|refine W1 rfl ?_ ?_|refine W2 rfl ?_ ?_|refine W3 rfl ?_ ?_|refine W4 ?_ ?_|refine W5 rfl ?_ ?_|refine W6 ?_ ?_|refine WN ?_|refine X1 (W1 rfl ?_ ?_)|refine X1 (W2 rfl ?_ ?_)|refine X2 (W7 rfl ?_ ?_)|refine X3 (W7 rfl ?_ ?_)|refine X4 (W7 rfl ?_ ?_)|refine X5 (W7 rfl ?_ ?_)|refine X7 (by conv => lhs;cbv) rfl ?_|refine X8 (by conv => lhs;cbv) ?_|refine LoopStop.ug 500 ?_|refine ZStop.dir ?_|(refine Ob.mk ?_;decide +kernel))
 all_goals (first | rfl | decide +kernel)
end Go.Vc

namespace Go.Vc
open Go.Proofs
set_option maxRecDepth 100000
set_option maxHeartbeats 40000000
set_option pp.deepTerms true
set_option pp.maxSteps 2000000
instance (priority := 5000) ZO_16 : FnM BA 154 [.loc 0 0,.loc 3 0] [(0,.box [.own 1,.own 2,.nils,.int .i64 5,.int .i64 0,.int .i64 0,.int .i64 0,.int .i64 0,.bool false,.bool false,.str [100,105,118]]),(1,.own qAC [((0 : Int),(0 : Int),([] : List UInt8),([] : List qAD),([] : List UInt8),(-1 : Int),([1] : List Int)),((1 : Int),(0 : Int),([104,116,109,108] : List UInt8),([] : List qAD),([] : List UInt8),(0 : Int),([2,5,6,7] : List Int)),((1 : Int),(0 : Int),([102,111,114,109] : List UInt8),([([105,100],[102])] : List qAD),([] : List UInt8),(1 : Int),([3,4] : List Int)),((1 : Int),(0 : Int),([105,110,112,117,116] : List UInt8),([] : List qAD),([] : List UInt8),(2 : Int),([] : List Int)),((1 : Int),(0 : Int),([112] : List UInt8),([] : List qAD),([] : List UInt8),(2 : Int),([] : List Int)),((1 : Int),(0 : Int),([105,110,112,117,116] : List UInt8),([([102,111,114,109],[102])] : List qAD),([] : List UInt8),(1 : Int),([] : List Int)),((1 : Int),(0 : Int),([105,110,112,117,116] : List UInt8),([([102,111,114,109],[103])] : List qAD),([] : List UInt8),(1 : Int),([] : List Int)),((1 : Int),(0 : Int),([105,110,112,117,116] : List UInt8),([] : List qAD),([] : List UInt8),(1 : Int),([] : List Int))]),(2,.own qAI [1]),(3,.box [.str []])] True (.agg [.int .i64 0,.str [],.nils,.bool false,.str []]) [(0,.box [.own 1,.own 2,.nils,.int .i64 5,.int .i64 0,.int .i64 0,.int .i64 0,.int .i64 0,.bool false,.bool false,.str [100,105,118]]),(1,.own qAC [((0 : Int),(0 : Int),([] : List UInt8),([] : List qAD),([] : List UInt8),(-1 : Int),([1] : List Int)),((1 : Int),(0 : Int),([104,116,109,108] : List UInt8),([] : List qAD),([] : List UInt8),(0 : Int),([2,5,6,7] : List Int)),((1 : Int),(0 : Int),([102,111,114,109] : List UInt8),([([105,100],[102])] : List qAD),([] : List UInt8),(1 : Int),([3,4] : List Int)),((1 : Int),(0 : Int),([105,110,112,117,116] : List UInt8),([] : List qAD),([] : List UInt8),(2 : Int),([] : List Int)),((1 : Int),(0 : Int),([112] : List UInt8),([] : List qAD),([] : List UInt8),(2 : Int),([] : List Int)),((1 : Int),(0 : Int),([105,110,112,117,116] : List UInt8),([([102,111,114,109],[102])] : List qAD),([] : List UInt8),(1 : Int),([] : List Int)),((1 : Int),(0 : Int),([105,110,112,117,116] : List UInt8),([([102,111,114,109],[103])] : List qAD),([] : List UInt8),(1 : Int),([] : List Int)),((1 : Int),(0 : Int),([105,110,112,117,116] : List UInt8),([] : List qAD),([] : List UInt8),(1 : Int),([] : List Int))]),(2,.own qAI [1]),(3,.box [.str []])] := by
 refine FnM.intro (N := 43) [0,1,4,5,10] [(3,[0,0,0,0,1,0,0,0,1,1,3,3,3,3]),(4,[0,0,0,0,7,0,0,0,0,4,4,4,4,4,4,4,4,4,4,4]),(3000004,[649,714,779,844,909,974,1039,1104,1169,1234])] 4 Tryz.call154 Tryz.func154 rfl rfl (by kernel_rfl) (fun hpre => ?_)
 repeat' ((conv => whnf);first|(with_reducible first|rfl|exact qAH|exact qAG)|exact True.intro|(intro hq;first|(exfalso;revert hq;decide +kernel)|clear hq|skip)|refine WA ?_ ?_|refine WF ?_|refine W1 rfl ?_ ?_|refine W2 rfl ?_ ?_|refine W3 rfl ?_ ?_|refine W4 ?_ ?_|refine W5 rfl ?_ ?_|refine W6 ?_ ?_|refine WN ?_|refine X1 (W1 rfl ?_ ?_)|refine X1 (W2 rfl ?_ ?_)|refine X2 (W7 rfl ?_ ?_)|refine X3 (W7 rfl ?_ ?_)|refine X4 (W7 rfl ?_ ?_)|refine X5 (W7 rfl ?_ ?_)|refine X7 (by conv => lhs;cbv) rfl ?_|refine X8 (by conv => lhs;cbv) ?_|refine LoopStop.ug 500 ?_|refine ZStop.dir ?_|(refine Ob.mk ?_;decide +kernel))
 all_goals (first | rfl | decide +kernel)
end Go.Vc

namespace Go.Vc
open Go.Proofs
set_option maxRecDepth 100000
set_option maxHeartbeats 40000000
set_option pp.deepTerms true
set_option pp.maxSteps 2000000
instance (priority := 5000) ZO_17 : FnM BA 155 [.loc 0 0,.loc 3 0] [(0,.box [.own 1,.own 2,.nils,.int .i64 5,.int .i64 0,.int .i64 0,.int .i64 0,.int .i64 0,.bool false,.bool false,.str [100,105,118]]),(1,.own qAC [((0 : Int),(0 : Int),([] : List UInt8),([] : List qAD),([] : List UInt8),(-1 : Int),([1] : List Int)),((1 : Int),(0 : Int),([104,116,109,108] : List UInt8),([] : List qAD),([] : List UInt8),(0 : Int),([2,5,6,7] : List Int)),((1 : Int),(0 : Int),([102,111,114,109] : List UInt8),([([105,100],[102])] : List qAD),([] : List UInt8),(1 : Int),([3,4] : List Int)),((1 : Int),(0 : Int),([105,110,112,117,116] : List UInt8),([] : List qAD),([] : List UInt8),(2 : Int),([] : List Int)),((1 : Int),(0 : Int),([112] : List UInt8),([] : List qAD),([] : List UInt8),(2 : Int),([] : List Int)),((1 : Int),(0 : Int),([105,110,112,117,116] : List UInt8),([([102,111,114,109],[102])] : List qAD),([] : List UInt8),(1 : Int),([] : List Int)),((1 : Int),(0 : Int),([105,110,112,117,116] : List UInt8),([([102,111,114,109],[103])] : List qAD),([] : List UInt8),(1 : Int),([] : List Int)),((1 : Int),(0 : Int),([105,110,112,117,116] : List UInt8),([] : List qAD),([] : List UInt8),(1 : Int),([] : List Int))]),(2,.own qAI [1]),(3,.box [.int .i64 0,.str [],.nils,.bool false,.str []])] True (.bool false) [(0,.box [.own 1,.own 2,.nils,.int .i64 5,.int .i64 0,.int .i64 0,.int .i64 0,.int .i64 0,.bool false,.bool false,.str [100,105,118]]),(1,.own qAC [((0 : Int),(0 : Int),([] : List UInt8),([] : List qAD),([] : List UInt8),(-1 : Int),([1] : List Int)),((1 : Int),(0 : Int),([104,116,109,108] : List UInt8),([] : List qAD),([] : List UInt8),(0 : Int),([2,5,6,7] : List Int)),((1 : Int),(0 : Int),([102,111,114,109] : List UInt8),([([105,100],[102])] : List qAD),([] : List UInt8),(1 : Int),([3,4] : List Int)),((1 : Int),(0 : Int),([105,110,112,117,116] : List UInt8),([] : List qAD),([] : List UInt8),(2 : Int),([] : List Int)),((1 : Int),(0 : Int),([112] : List UInt8),([] : List qAD),([] : List UInt8),(2 : Int),([] : List Int)),((1 : Int),(0 : Int),([105,110,112,117,116] : List UInt8),([([102,111,114,109],[102])] : List qAD),([] : List UInt8),(1 : Int),([] : List Int)),((1 : Int),(0 : Int),([105,110,112,117,116] : List UInt8),([([102,111,114,109],[103])] : List qAD),([] : List UInt8),(1 : Int),([] : List Int)),((1 : Int),(0 : Int),([105,110,112,117,116] : List UInt8),([] : List qAD),([] : List UInt8),(1 : Int),([] : List Int))]),(2,.own qAI [1]),(3,.box [.int .i64 0,.str [],.nils,.bool false,.str []])] := by
 refine FnM.intro (N := 57) [0,1,4,15,20,35,50] [] 4 Tryz.call155 Tryz.func155 rfl rfl (by kernel_rfl) (fun hpre => ?_)
 repeat' ((conv => whnf);first|(with_reducible first|rfl|exact qAH|exact qAG)|exact True.intro|(intro hq;first|(exfalso;revert hq;decide +kernel)|clear hq|skip)|refine WA ?_ ?_|refine WF ?_|refine W1 rfl ?_ ?_|refine W2 rfl ?_ ?_|refine W3 rfl ?_ ?_|refine W4 ?_ ?_|refine W5 rfl ?_ ?_|refine W6 ?_ ?_|refine WN ?_|refine X1 (W1 rfl ?_ ?_)|refine X1 (W2 rfl ?_ ?_)|refine X2 (W7 rfl ?_ ?_)|refine X3 (W7 rfl ?_ ?_)|refine X4 (W7 rfl ?_ ?_)|refine X5 (W7 rfl ?_ ?_)|refine X7 (by conv => lhs;cbv) rfl ?_|refine X8 (by conv => lhs;cbv) ?_|refine LoopStop.ug 500 ?_|refine ZStop.dir ?_|(refine Ob.mk ?_;decide +kernel))
 all_goals (first | rfl | decide +kernel)
end Go.Vc

namespace Go.Vc
open Go.Proofs
set_option maxRecDepth 10000
instance decN1 : DecidableEq (List UInt8) := inferInstance
instance decN2 : DecidableEq (List UInt8 × List UInt8) := instDecidableEqProd
instance decN3 : DecidableEq (Int × List Int) := instDecidableEqProd
instance decN4 : DecidableEq (List (List UInt8 × List UInt8)) := instDecidableEqList
instance decN5 : DecidableEq (List UInt8 × Int × List Int) := instDecidableEqProd
instance decNode : DecidableEq qAE := (instDecidableEqProd : DecidableEq (Int × Int × List UInt8 × List (List UInt8 × List UInt8) × List UInt8 × Int × List Int))
def qdE (K : Nat → List Int) : Nat → List Bool → Nat → Nat → Nat → Option (List Ev × List Bool × Nat)
 | 0,_,_,_,_ => none
 | f + 1,s,i,j,c =>
  if j < (K i).length then
   if okK s ((K i).getD j 0) = true then
    match qdE K f (s.set ((K i).getD j 0).toNat true) ((K i).getD j 0).toNat 0 (c + 1) with
    | none => none
    | some r1 =>
     match qdE K f r1.2.1 i (j + 1) r1.2.2 with
     | none => none
     | some r2 => some ((((K i).getD j 0).toNat,(i : Int),c,false) :: (r1.1 ++ r2.1),r2.2.1,r2.2.2)
   else qdE K f s i (j + 1) c
  else some ([(i,0,c,true)],s,c + 1)
theorem qZA {K : Nat → List Int} : ∀ (f : Nat) (s : List Bool) (i j c : Nat) (r : List Ev × List Bool × Nat),qdE K f s i j c = some r → dfs K s i j c = r := by
 intro f
 induction f with
 | zero => intro s i j c r h;cases h
 | succ f ih =>
  intro s i j c r h
  rw [qdE] at h
  split at h
  ·rename_i hj
   split at h
   ·rename_i hk
    split at h
    ·cases h
    ·rename_i r1 h1
     split at h
     ·cases h
     ·rename_i r2 h2
      cases h
      rw [qFE hj hk,ih _ _ _ _ _ h1,ih _ _ _ _ _ h2]
   ·rename_i hk
    rw [qC4 hj (by simpa using hk)]
    exact ih _ _ _ _ _ h
  ·rename_i hj
   cases h
   exact qC2 hj
def qkT (t : List qAE) (f : Nat) : Option St :=
 if t.length = 0 then none else
 match qdE (qAB t) f ((List.replicate t.length false).set 0 true) 0 0 1 with
 | some r => some ((st0 t.length).run ((0, -1,0,false) :: r.1))
 | none => none
theorem qWL {t : List qAE} {f : Nat} {y : St} (h : qkT t f = some y) : fin t = y := by
 unfold qkT at h
 split at h
 ·cases h
 ·rename_i h0
  split at h
  ·rename_i r hr
   cases h
   unfold fin qQZ qM0
   rw [if_neg h0,qJQ,qJQ,List.append_nil,qZA _ _ _ _ _ _ hr]
  ·cases h
def qtR (t : List qAE) (k f : Nat) : Option (List qAE) :=
 match qdE (qAB t) f ((List.replicate t.length false).set k true) k 0 0 with
 | some r => some (({ out := [mkN (t.getD k qAC.dflt) (-1)],P := [0] } : PSt).run t r.1).out
 | none => none
theorem qXI {t : List qAE} {k f : Nat} {x : List qAE} (h : qtR t k f = some x) : qOB t (qAB t) [] (List.replicate t.length false) k (-1) = x := by
 unfold qtR at h
 split at h
 ·rename_i r hr
  cases h
  unfold qOB pS
  rw [qZA _ _ _ _ _ _ hr]
  rfl
 ·cases h
def qxM (t : List qAE) (i : Int) (f : Nat) : Option (List qAE) :=
 match qkT t f,qtR t 0 f with
 | some y,some x =>
  if qFU t && decide (t.length ≤ 45) && qFU x && decide (y.L.length ≤ x.length) && decide (x.length ≤ 1000) && decide (0 < t.length) then
   match qVW (qA7 y.L) i with
   | none => some [qYA]
   | some k => match qtR x k f with | some z => some (qjB z) | none => none
  else none
 | _,_ => none
theorem qeO {t : List qAE} {i : Int} {f : Nat} {T : List qAE} (h : qxM t i f = some T) : qTD t ∧ qcK t i = T := by
 unfold qxM at h
 split at h
 ·rename_i y x hy hx
  split at h
  ·rename_i hc
   simp only [Bool.and_eq_true,decide_eq_true_eq] at hc
   have e1 := qWL hy
   have e0 : ¬ t = [] := fun e => by rw [e] at hc;exact absurd hc.2 (by decide)
   have e2 : qEI t = x := by unfold qEI;rw [if_neg e0];exact qXI hx
   refine ⟨⟨hc.1.1.1.1.1,hc.1.1.1.1.2,by rw [e2];exact hc.1.1.1.2,by rw [e1,e2];exact hc.1.1.2,by rw [e2];exact hc.1.2⟩,?_⟩
   unfold qcK
   rw [e1,e2]
   split at h
   ·rename_i hk;rw [hk];exact Option.some.inj h
   ·rename_i k hk
    rw [hk]
    split at h
    ·rename_i z hz
     show qeZ x k = T
     unfold qeZ
     rw [qXI hz]
     exact Option.some.inj h
    ·cases h
  ·cases h
 ·cases h
end Go.Vc

namespace Go.Vc
open Go.Proofs
set_option maxRecDepth 100000
set_option maxHeartbeats 40000000
abbrev qvC : List qAE := [((0 : Int),(0 : Int),([] : List UInt8),([] : List qAD),([] : List UInt8),(-1 : Int),([1] : List Int)),((1 : Int),(0 : Int),([104,116,109,108] : List UInt8),([] : List qAD),([] : List UInt8),(0 : Int),([2,5,6,7] : List Int)),((1 : Int),(0 : Int),([102,111,114,109] : List UInt8),([([105,100],[102])] : List qAD),([] : List UInt8),(1 : Int),([3,4] : List Int)),((1 : Int),(0 : Int),([105,110,112,117,116] : List UInt8),([] : List qAD),([] : List UInt8),(2 : Int),([] : List Int)),((1 : Int),(0 : Int),([112] : List UInt8),([] : List qAD),([] : List UInt8),(2 : Int),([] : List Int)),((1 : Int),(0 : Int),([105,110,112,117,116] : List UInt8),([([102,111,114,109],[102])] : List qAD),([] : List UInt8),(1 : Int),([] : List Int)),((1 : Int),(0 : Int),([105,110,112,117,116] : List UInt8),([([102,111,114,109],[103])] : List qAD),([] : List UInt8),(1 : Int),([] : List Int)),((1 : Int),(0 : Int),([105,110,112,117,116] : List UInt8),([] : List qAD),([] : List UInt8),(1 : Int),([] : List Int))]
abbrev qfI : List qAE := [((0 : Int),(0 : Int),([] : List UInt8),([] : List qAD),([] : List UInt8),(-1 : Int),([1,4,5,6] : List Int)),((1 : Int),(0 : Int),([102,111,114,109] : List UInt8),([([105,100],[102])] : List qAD),([] : List UInt8),(0 : Int),([2,3] : List Int)),((1 : Int),(0 : Int),([105,110,112,117,116] : List UInt8),([] : List qAD),([] : List UInt8),(1 : Int),([] : List Int)),((1 : Int),(0 : Int),([112] : List UInt8),([] : List qAD),([] : List UInt8),(1 : Int),([] : List Int)),((1 : Int),(0 : Int),([105,110,112,117,116] : List UInt8),([([102,111,114,109],[102])] : List qAD),([] : List UInt8),(0 : Int),([] : List Int)),((1 : Int),(0 : Int),([105,110,112,117,116] : List UInt8),([([102,111,114,109],[103])] : List qAD),([] : List UInt8),(0 : Int),([] : List Int)),((1 : Int),(0 : Int),([105,110,112,117,116] : List UInt8),([] : List qAD),([] : List UInt8),(0 : Int),([] : List Int))]
instance (priority := 5000) ZO_new : FnM BA 114 [.str [100,105,118]] [] True (.loc 0 0) [(0,.box [.own 1,.own 2,.nils,.int .i64 5,.int .i64 0,.int .i64 0,.int .i64 0,.int .i64 0,.bool false,.bool false,.str [100,105,118]]),(1,.own qAC [((0 : Int),(0 : Int),([] : List UInt8),([] : List qAD),([] : List UInt8),(-1 : Int),([1] : List Int)),((1 : Int),(0 : Int),([104,116,109,108] : List UInt8),([] : List qAD),([] : List UInt8),(0 : Int),([] : List Int))]),(2,.own qAI [1])] := by
 refine FnM.intro (N := 34) [0,2,3,4,10] [] 0 Tryz.call114 Tryz.func114 rfl rfl (by kernel_rfl) (fun hpre => ?_)
 repeat' ((conv => whnf);first|(with_reducible first|rfl|exact qAH|exact qAG)|exact True.intro|(intro hq;first|(exfalso;revert hq;decide +kernel)|clear hq|skip)|refine WA ?_ ?_|refine WF ?_|refine W1 rfl ?_ ?_|refine W2 rfl ?_ ?_|refine W3 rfl ?_ ?_|refine W4 ?_ ?_|refine W5 rfl ?_ ?_|refine W6 ?_ ?_|refine WN ?_|refine X1 (W1 rfl ?_ ?_)|refine X1 (W2 rfl ?_ ?_)|refine X2 (W7 rfl ?_ ?_)|refine X3 (W7 rfl ?_ ?_)|refine X4 (W7 rfl ?_ ?_)|refine X5 (W7 rfl ?_ ?_)|refine X7 (by conv => lhs;cbv) rfl ?_|refine X8 (by conv => lhs;cbv) ?_|refine LoopStop.ug 500 ?_|refine ZStop.dir ?_|(refine Ob.mk ?_;decide +kernel))
 all_goals (first | rfl | decide +kernel)
instance (priority := 5000) ZO_run : FnM BA 115 [.loc 0 0,.str (60 :: 102 :: 111 :: 114 :: 109 :: 32 :: 105 :: 100 :: 61 :: 102 :: 62 :: 60 :: 105 :: 110 :: 112 :: 117 :: 116 :: 62 :: 60 :: 112 :: 62 :: 60 :: 47 :: 112 :: 62 :: 60 :: 47 :: 102 :: 111 :: 114 :: 109 :: 62 :: 60 :: 105 :: 110 :: 112 :: 117 :: 116 :: 32 :: 102 :: 111 :: 114 :: 109 :: 61 :: 102 :: 62 :: 60 :: 105 :: 110 :: 112 :: 117 :: 116 :: 32 :: 102 :: 111 :: 114 :: 109 :: 61 :: 103 :: 62 :: 60 :: 105 :: 110 :: 112 :: 117 :: 116 :: 62 :: [])] [(0,.box [.own 1,.own 2,.nils,.int .i64 5,.int .i64 0,.int .i64 0,.int .i64 0,.int .i64 0,.bool false,.bool false,.str [100,105,118]]),(1,.own qAC [((0 : Int),(0 : Int),([] : List UInt8),([] : List qAD),([] : List UInt8),(-1 : Int),([1] : List Int)),((1 : Int),(0 : Int),([104,116,109,108] : List UInt8),([] : List qAD),([] : List UInt8),(0 : Int),([] : List Int))]),(2,.own qAI [1])] True (.tup []) [(0,.box [.own 1,.own 3,.nils,.int .i64 5,.int .i64 0,.int .i64 0,.int .i64 0,.int .i64 0,.bool false,.bool false,.str [100,105,118]]),(1,.own qAC qvC),(3,.own qAI [1])] := by
 refine FnM.intro (N := 46) [0,1,4,5,6,7,35,42,44,45] [] 3 Tryz.call115 Tryz.func115 rfl rfl (by kernel_rfl) (fun hpre => ?_)
 repeat' ((conv => whnf);first|(with_reducible first|rfl|exact qAH|exact qAG)|exact True.intro|(intro hq;first|(exfalso;revert hq;decide +kernel)|clear hq|skip)|refine WA ?_ ?_|refine WF ?_|refine W1 rfl ?_ ?_|refine W2 rfl ?_ ?_|refine W3 rfl ?_ ?_|refine W4 ?_ ?_|refine W5 rfl ?_ ?_|refine W6 ?_ ?_|refine WN ?_|refine X1 (W1 rfl ?_ ?_)|refine X1 (W2 rfl ?_ ?_)|refine X2 (W7 rfl ?_ ?_)|refine X3 (W7 rfl ?_ ?_)|refine X4 (W7 rfl ?_ ?_)|refine X5 (W7 rfl ?_ ?_)|refine X7 (by conv => lhs;cbv) rfl ?_|refine X8 (by conv => lhs;cbv) ?_|refine LoopStop.ug 500 ?_|refine ZStop.dir ?_|(refine Ob.mk ?_;decide +kernel))
 all_goals (first | rfl | decide +kernel)
theorem qWT : qTD qvC ∧ qcK qvC 1 = qfI := qeO (f := 100) (by decide +kernel)
instance ZO_fragA : FnM BA 59 [.str (60 :: 102 :: 111 :: 114 :: 109 :: 32 :: 105 :: 100 :: 61 :: 102 :: 62 :: 60 :: 105 :: 110 :: 112 :: 117 :: 116 :: 62 :: 60 :: 112 :: 62 :: 60 :: 47 :: 112 :: 62 :: 60 :: 47 :: 102 :: 111 :: 114 :: 109 :: 62 :: 60 :: 105 :: 110 :: 112 :: 117 :: 116 :: 32 :: 102 :: 111 :: 114 :: 109 :: 61 :: 102 :: 62 :: 60 :: 105 :: 110 :: 112 :: 117 :: 116 :: 32 :: 102 :: 111 :: 114 :: 109 :: 61 :: 103 :: 62 :: 60 :: 105 :: 110 :: 112 :: 117 :: 116 :: 62 :: []),.str [100,105,118]] [] True (.agg [.rd qAC qfI]) [] := by
 refine FnM.intro (N := 28) [0,1,4,5,7] [(5,[0,0,0,1,0,0,0,0,1,1,1,1,1,1,3,3]),(5000005,[5])] 0 Tryz.call59 Tryz.func59 rfl rfl (by kernel_rfl) (fun hpre => ?_)
 repeat' ((conv => whnf);first|(with_reducible first|rfl|exact qAH|exact qAG)|exact True.intro|(intro hq;first|(exfalso;revert hq;decide +kernel)|clear hq|skip)|refine WA ?_ ?_|refine WF ?_|refine W1 rfl ?_ ?_|refine W2 rfl ?_ ?_|refine W3 rfl ?_ ?_|refine W4 ?_ ?_|refine W5 rfl ?_ ?_|refine W6 ?_ ?_|refine WN ?_|refine X1 (W1 rfl ?_ ?_)|refine X1 (W2 rfl ?_ ?_)|refine X2 (W7 rfl ?_ ?_)|refine X3 (W7 rfl ?_ ?_)|refine X4 (W7 rfl ?_ ?_)|refine X5 (W7 rfl ?_ ?_)|refine X7 (by conv => lhs;cbv) rfl ?_|refine X8 (by conv => lhs;cbv) ?_|refine LoopStop.ug 500 ?_|refine ZStop.dir ?_|(refine Ob.mk ?_;decide +kernel))
 all_goals (first | exact Ob.mk qWT.1 | exact qWT.1 | exact congrArg (fun l => SV.rd qAC l) qWT.2 | rfl | decide +kernel | trace_state)
instance ZO_frag : Fn BB 59 [.str (60 :: 102 :: 111 :: 114 :: 109 :: 32 :: 105 :: 100 :: 61 :: 102 :: 62 :: 60 :: 105 :: 110 :: 112 :: 117 :: 116 :: 62 :: 60 :: 112 :: 62 :: 60 :: 47 :: 112 :: 62 :: 60 :: 47 :: 102 :: 111 :: 114 :: 109 :: 62 :: 60 :: 105 :: 110 :: 112 :: 117 :: 116 :: 32 :: 102 :: 111 :: 114 :: 109 :: 61 :: 102 :: 62 :: 60 :: 105 :: 110 :: 112 :: 117 :: 116 :: 32 :: 102 :: 111 :: 114 :: 109 :: 61 :: 103 :: 62 :: 60 :: 105 :: 110 :: 112 :: 117 :: 116 :: 62 :: []),.str [100,105,118]] True (.agg [.rd qAC qfI]) :=
 ⟨ZO_fragA.call,ZO_fragA.ok⟩
end Go.Vc

namespace Go.Vc
open Go.Proofs
open Go.Vc.W
set_option maxRecDepth 10000
set_option maxHeartbeats 4000000
theorem qKU {t : List qAE} {m : Int} (h : qBW t m = true) (i : Int) (hi : 0 ≤ i ∧ i < t.length) : qMG (nd t i) = true := by
 unfold qBW at h
 rw [Bool.and_eq_true,List.all_eq_true] at h
 refine h.2 _ ?_
 have e : nd t i = t[i.toNat]'(by omega) := by unfold nd;rw [List.getD_eq_getElem?_getD,List.getElem?_eq_getElem (by omega)];rfl
 rw [e];exact List.getElem_mem _
theorem qXW {t : List qAE} {m : Int} (h : qBW t m = true) : (t.length : Int) ≤ m := by
 unfold qBW at h;rw [Bool.and_eq_true,decide_eq_true_eq] at h;exact h.1
theorem qDH {n : qAE} (h : qMG n = true) : n.2.2.1.length ≤ 40 ∧ n.2.2.2.1.length ≤ 14 ∧ n.2.2.2.2.1.length ≤ 300 ∧ n.kids.length ≤ 60 := by
 unfold qMG qIK at h
 simp only [Bool.and_eq_true,decide_eq_true_eq] at h
 omega
abbrev idT : List UInt8 := [105,100]
def qES (t : List qAE) : List Int := qA7 (fin t).L
theorem qM1 (t : List qAE) (k : Nat) (h : k < (qES t).length) (d0 : Int) : 0 ≤ (qES t).getD k d0 ∧ (qES t).getD k d0 < t.length := by
 have d := qHQ (qAB t) t.length
 unfold qES qA7 at *
 rw [List.length_map] at h
 rw [List.getD_eq_getElem?_getD,List.getElem?_map,List.getElem?_eq_getElem h]
 have := d.lt _ (List.getElem_mem h)
 show 0 ≤ ((fin t).L[k] : Int) ∧ ((fin t).L[k] : Int) < t.length
 have h2 : (fin t).L[k] < t.length := this
 omega
theorem qQI {p : Int → Bool} (L : List Int) (j : Nat) (h : j < L.length) (d : Int) : (L.take (j + 1)).filter p = (L.take j).filter p ++ (if p (L.getD j d) = true then [L.getD j d] else []) := by
 rw [List.take_succ_eq_append_getElem h,List.filter_append]
 have : L.getD j d = L[j] := by simp [List.getD,h]
 rw [this]
 congr 1
 simp [List.filter_cons]
theorem qjW {p : Int → Bool} {L : List Int} {j : Nat} (h : j < L.length) (d : Int) (hp : p (L.getD j d) = true) : (L.take (j + 1)).filter p = (L.take j).filter p ++ [L.getD j d] := by rw [qQI L j h d,if_pos hp]
theorem qhO {p : Int → Bool} {L : List Int} {j : Nat} (h : j < L.length) (d : Int) (hp : p (L.getD j d) = false) : (L.take (j + 1)).filter p = (L.take j).filter p := by rw [qQI L j h d,if_neg (by rw [hp];decide),List.append_nil]
end Go.Vc

namespace Go.Vc
open Go.Proofs
set_option maxRecDepth 10000
set_option maxHeartbeats 4000000
theorem qT5 (l : List Int) (k : Nat) (x : Int) (h : k < l.length) : ((l.take (k + 1)).count x : Int) = bif l.getD k 0 == x then ((l.take k).count x : Int) + 1 else ((l.take k).count x : Int) := by
 rw [take_snoc l k 0 h,List.count_append,List.count_cons,List.count_nil]
 cases e : l.getD k 0 == x <;> simp
instance rtTimes (l : List Int) (x : Int) : Fn BB 112 [.rd qAI l,.int .i64 x] (l.length ≤ 1000000) (.int .i64 (l.count x : Nat)) := by
 refine Fn.intro (N := 22) [0,1,4,5,6,10,18] [] Tryz.call112 Tryz.func112 rfl rfl (by kernel_rfl) (fun hpre => ?_)
 repeat' ((conv => whnf);first|(with_reducible first|rfl|exact qAH|exact qAG)|exact True.intro|intro _|refine WA ?_ ?_|refine WF ?_|refine W1 rfl ?_ ?_|refine W2 rfl ?_ ?_|refine W3 rfl ?_ ?_|refine W4 ?_ ?_|refine W5 rfl ?_ ?_|refine W6 ?_ ?_|refine WN ?_|refine X1 (W1 rfl ?_ ?_)|refine X1 (W2 rfl ?_ ?_)|refine X2 (W7 rfl ?_ ?_)|refine X3 (W7 rfl ?_ ?_)|refine X4 (W7 rfl ?_ ?_)|refine X5 (W7 rfl ?_ ?_))
 all_goals (try (conv => whnf))
 all_goals (try first|exact obA|refine Ob.mk ?_)
 refine LoopStop.mk (α := Nat) (fun i => [(6,.int .i64 i),(5,.int .i64 ((l.take i).count x : Nat))]) (fun _ => []) 20 (fun i => i ≤ l.length) (fun i => l.length - i) 0 (Nat.zero_le _) ?_ (fun i hi => ?_)
 ·all_goals exact vcA
 ·have hc : (l.take i).count x ≤ i := Nat.le_trans List.count_le_length (by rw [List.length_take];omega)
  repeat' ((conv => whnf);first|(with_reducible first|rfl|exact qAH|exact qAG)|exact True.intro|intro _|refine WA ?_ ?_|refine WF ?_|refine W1 rfl ?_ ?_|refine W2 rfl ?_ ?_|refine W3 rfl ?_ ?_|refine W4 ?_ ?_|refine W5 rfl ?_ ?_|refine W6 ?_ ?_|refine WN ?_|refine X1 (W1 rfl ?_ ?_)|refine X1 (W2 rfl ?_ ?_)|refine X2 (W7 rfl ?_ ?_)|refine X3 (W7 rfl ?_ ?_)|refine X4 (W7 rfl ?_ ?_)|refine X5 (W7 rfl ?_ ?_))
  all_goals (try (conv => whnf))
  all_goals (try first|exact obA|refine Ob.mk ?_)
  all_goals (try simp only [Int.toNat_natCast] at *)
  ·rename_i h1 h2
   have hl : i < l.length := by have := of_decide_eq_true h1;omega
   refine Rnd.mk ⟨i + 1,by omega,by omega,?_,?_,?_⟩
   repeat' ((conv => whnf);first|(with_reducible first|rfl|exact qAH|exact qAG)|exact True.intro|intro _|refine WA ?_ ?_|refine WF ?_|refine W1 rfl ?_ ?_|refine W2 rfl ?_ ?_|refine W3 rfl ?_ ?_|refine W4 ?_ ?_|refine W5 rfl ?_ ?_|refine W6 ?_ ?_|refine WN ?_|refine X1 (W1 rfl ?_ ?_)|refine X1 (W2 rfl ?_ ?_)|refine X2 (W7 rfl ?_ ?_)|refine X3 (W7 rfl ?_ ?_)|refine X4 (W7 rfl ?_ ?_)|refine X5 (W7 rfl ?_ ?_))
   all_goals (try (conv => whnf))
   all_goals (try first|exact obA|refine Ob.mk ?_)
   all_goals (first | rfl | (rw [qT5 l i x hl,show (l.getD i 0 == x) = true from h2];rfl) | trace_state)
  ·rename_i h1 h2
   have hl : i < l.length := by have := of_decide_eq_true h1;omega
   refine Rnd.mk ⟨i + 1,by omega,by omega,?_,?_,?_⟩
   repeat' ((conv => whnf);first|(with_reducible first|rfl|exact qAH|exact qAG)|exact True.intro|intro _|refine WA ?_ ?_|refine WF ?_|refine W1 rfl ?_ ?_|refine W2 rfl ?_ ?_|refine W3 rfl ?_ ?_|refine W4 ?_ ?_|refine W5 rfl ?_ ?_|refine W6 ?_ ?_|refine WN ?_|refine X1 (W1 rfl ?_ ?_)|refine X1 (W2 rfl ?_ ?_)|refine X2 (W7 rfl ?_ ?_)|refine X3 (W7 rfl ?_ ?_)|refine X4 (W7 rfl ?_ ?_)|refine X5 (W7 rfl ?_ ?_))
   all_goals (try (conv => whnf))
   all_goals (try first|exact obA|refine Ob.mk ?_)
   all_goals (first | rfl | (rw [qT5 l i x hl,show (l.getD i 0 == x) = false from h2];rfl) | trace_state)
  ·rename_i h1
   have hl : i = l.length := by have := of_decide_eq_false h1;omega
   rw [hl,List.take_length]
def qG6 (t : List qAE) : Nat → Int → Bool
 | 0,_ => false
 | f + 1,i => bif (nd t i).up == -1 then true else qG6 t f (nd t i).up
def qf7 (t : List qAE) : Prop := ∀ i : Int,0 ≤ i ∧ i < t.length → (nd t i).up = -1 ∨ (0 ≤ (nd t i).up ∧ (nd t i).up < t.length)
instance rtHeld (t : List qAE) (i : Int) : Fn BB 113 [.agg [.rd qAC t],.int .i64 i] ((0 ≤ i ∧ i < t.length) ∧ qf7 t ∧ t.length ≤ 1000000) (.bool (qG6 t (t.length + 1) i)) := by
 refine Fn.intro (N := 26) [0,1,2,4,5,10,19] [] Tryz.call113 Tryz.func113 rfl rfl (by kernel_rfl) (fun hpre => ?_)
 obtain ⟨h1,h2,h3⟩ := hpre
 repeat' ((conv => whnf);first|(with_reducible first|rfl|exact qAH|exact qAG)|exact True.intro|intro _|refine WA ?_ ?_|refine WF ?_|refine W1 rfl ?_ ?_|refine W2 rfl ?_ ?_|refine W3 rfl ?_ ?_|refine W4 ?_ ?_|refine W5 rfl ?_ ?_|refine W6 ?_ ?_|refine WN ?_|refine X1 (W1 rfl ?_ ?_)|refine X1 (W2 rfl ?_ ?_)|refine X2 (W7 rfl ?_ ?_)|refine X3 (W7 rfl ?_ ?_)|refine X4 (W7 rfl ?_ ?_)|refine X5 (W7 rfl ?_ ?_))
 all_goals (try (conv => whnf))
 all_goals (try first|exact obA|refine Ob.mk ?_)
 refine LoopStop.mk (α := Nat × Int) (fun a => [(5,.int .i64 (a.1 : Nat)),(1,.int .i64 a.2)]) (fun _ => []) 20 (fun a => a.1 ≤ t.length + 1 ∧ (0 ≤ a.2 ∧ a.2 < t.length) ∧ qG6 t (t.length + 1) i = qG6 t (t.length + 1 - a.1) a.2) (fun a => t.length + 1 - a.1) (0,i) ⟨by simp,h1,rfl⟩ ?_ (fun a ha => ?_)
 ·all_goals exact vcA
 ·obtain ⟨k,j⟩ := a
  obtain ⟨g1,g2,g3⟩ := ha
  dsimp only at g1 g2 g3
  have hu := h2 j g2
  have st : k ≤ t.length → qG6 t (t.length + 1 - k) j = bif (nd t j).up == -1 then true else qG6 t (t.length + 1 - (k + 1)) (nd t j).up := fun h => by
   rw [show t.length + 1 - k = (t.length - k) + 1 by omega,qG6,show t.length + 1 - (k + 1) = t.length - k by omega]
  repeat' ((conv => whnf);first|(with_reducible first|rfl|exact qAH|exact qAG)|exact True.intro|intro _|refine WA ?_ ?_|refine WF ?_|refine W1 rfl ?_ ?_|refine W2 rfl ?_ ?_|refine W3 rfl ?_ ?_|refine W4 ?_ ?_|refine W5 rfl ?_ ?_|refine W6 ?_ ?_|refine WN ?_|refine X1 (W1 rfl ?_ ?_)|refine X1 (W2 rfl ?_ ?_)|refine X2 (W7 rfl ?_ ?_)|refine X3 (W7 rfl ?_ ?_)|refine X4 (W7 rfl ?_ ?_)|refine X5 (W7 rfl ?_ ?_))
  all_goals (try (conv => whnf))
  all_goals (try first|exact obA|refine Ob.mk ?_)
  all_goals (try dsimp only at *)
  all_goals (try (exact g2))
  all_goals (try omega)
  ·rename_i c1 c2
   have hk : k ≤ t.length := by have := of_decide_eq_true c1;omega
   rw [g3,st hk,show ((nd t j).up == -1) = true from c2];rfl
  ·rename_i c1 c2
   have hk : k ≤ t.length := by have := of_decide_eq_true c1;omega
   have hne : (nd t j).up ≠ -1 := fun e => by
    rw [show ((nd t j).up == -1) = true from beq_iff_eq.2 e] at c2
    cases c2
   refine Rnd.mk ⟨(k + 1,(nd t j).up),⟨by (simp only;omega),by (simp only;exact hu.resolve_left hne),by rw [g3,st hk,show ((nd t j).up == -1) = false from c2];rfl⟩,by (simp only;omega),?_,?_,?_⟩
   all_goals exact vcA
  ·rename_i c1
   have hk : k = t.length + 1 := by have := of_decide_eq_false c1;omega
   rw [g3,hk,Nat.sub_self];rfl
end Go.Vc

namespace Go.Vc
open Go.Proofs
set_option maxRecDepth 10000
set_option maxHeartbeats 8000000
def ndR (t : List qAE) (i : Nat) : qAE := t.getD i qAC.dflt
def qb6 (t : List qAE) (i : Nat) : Bool := decide ((i : Int) > 0) && (decide ((ndR t i).1 < 1) || decide ((ndR t i).1 > 4) || decide ((ndR t i).up < -1) || decide ((ndR t i).up ≥ (t.length : Int)))
def qwX (t : List qAE) (i : Nat) : Bool := decide ((ndR t i).up ≥ 0) && (decide ((nd t (ndR t i).up).1 > 1) || ((nd t (ndR t i).up).kids.count (i : Int) : Int) != 1)
def qnC (t : List qAE) (i : Nat) (k : Int) : Bool := decide (k < 0) || decide (k ≥ (t.length : Int)) || (nd t k).up != (i : Int)
def okN (t : List qAE) (i : Nat) : Bool := !qb6 t i && !qwX t i && (ndR t i).kids.all fun k => !qnC t i k
def badR (t : List qAE) : Bool := (t.length : Int) == 0 || (nd t 0).1 != 0 || (nd t 0).up != -1
def qIX (t : List qAE) : Bool := !badR t && ((List.range t.length).all (okN t) && (List.range t.length).all fun i => qG6 t (t.length + 1) i)
theorem qCS (p : Nat → Bool) (n i : Nat) (hi : i < n) (h : p i = false) : (List.range n).all p = false := by
 rw [List.all_eq_false]
 exact ⟨i,List.mem_range.2 hi,by rw [h];decide⟩
theorem qHF (p : Nat → Bool) (n : Nat) (h : ∀ k,k < n → p k = true) : (List.range n).all p = true := by
 rw [List.all_eq_true]
 exact fun k hk => h k (List.mem_range.1 hk)
instance rtRight (t : List qAE) : Fn BB 56 [.agg [.rd qAC t]] (t.length ≤ 1000 ∧ ∀ i,(nd t i).kids.length ≤ 1000) (.bool (qIX t)) := by
  refine Fn.intro (N := 138) [0,1,2,3,4,5,6,26,31,63,88,93,126,131,137] [(14,[0,1,0,1,1,1,1,1,1,1,1,1,1,1,1,1,1,1,1,1,1,1,1,1,1,1,1,1,1,3,3])] Tryz.call56 Tryz.func56 rfl rfl (by kernel_rfl) (fun hpre => ?_)
  obtain ⟨h1,h2⟩ := hpre
  have bt : badR t = true → qIX t = false := fun h => by unfold qIX;rw [h];rfl
  have bf : badR t = false → 0 < t.length := fun h => by
    unfold badR at h
    simp only [Bool.or_eq_false_iff,beq_eq_false_iff_ne] at h
    have := h.1.1;omega
  repeat' ((conv => whnf);first|(with_reducible first|rfl|exact qAH|exact qAG)|exact True.intro|intro _|refine WA ?_ ?_|refine WF ?_|refine W1 rfl ?_ ?_|refine W2 rfl ?_ ?_|refine W3 rfl ?_ ?_|refine W4 ?_ ?_|refine W5 rfl ?_ ?_|refine W6 ?_ ?_|refine WN ?_|refine X1 (W1 rfl ?_ ?_)|refine X1 (W2 rfl ?_ ?_)|refine X2 (W7 rfl ?_ ?_)|refine X3 (W7 rfl ?_ ?_)|refine X4 (W7 rfl ?_ ?_)|refine X5 (W7 rfl ?_ ?_))
  all_goals (try (conv => whnf))
  all_goals (try first|exact obA|refine Ob.mk ?_)
  all_goals (try (have hz : ¬ t.length = 0 := fun e => by (have h := ‹((t.length : Int) == 0 || _) = false›;rw [Bool.or_eq_false_iff] at h;have := beq_eq_false_iff_ne.1 h.1;omega)))
  all_goals (try omega)
  · exact (bt ‹_›).symm
  have hbad : badR t = false := ‹_›
  have hpos := bf hbad
  have hup0 : (nd t 0).up = -1 := by
    unfold badR at hbad
    simp only [Bool.or_eq_false_iff] at hbad
    have := hbad.2
    simpa using this
  have red : qIX t = ((List.range t.length).all (okN t) && (List.range t.length).all fun i => qG6 t (t.length + 1) i) := by unfold qIX;rw [hbad];rfl
  rw [red]
  refine LoopStop.mk (α := Nat) (fun i => [(3,.int .i64 i)]) (fun _ => []) 20 (fun i => i ≤ t.length ∧ ∀ k,k < i → okN t k = true) (fun i => t.length - i) 0 ⟨Nat.zero_le _,fun k hk => absurd hk (Nat.not_lt_zero _)⟩ ?_ (fun i hi => ?_)
  · all_goals exact vcA
  · obtain ⟨hi,hall⟩ := hi
    have fA : qb6 t i = true → okN t i = false := fun h => by unfold okN;rw [h];rfl
    have fB : qwX t i = true → okN t i = false := fun h => by unfold okN;rw [h];simp
    have fU : qb6 t i = false → i < t.length → (ndR t i).up = -1 ∨ (0 ≤ (ndR t i).up ∧ (ndR t i).up < t.length) := fun h hl => by
      by_cases e : i = 0
      · left;subst e;exact hup0
      · unfold qb6 at h
        rw [decide_eq_true (by omega),Bool.true_and] at h
        simp only [Bool.or_eq_false_iff] at h
        have a1 := of_decide_eq_false h.1.2
        have a2 := of_decide_eq_false h.2
        omega
    repeat' ((conv => whnf);first|(with_reducible first|rfl|exact qAH|exact qAG)|exact True.intro|intro _|refine WA ?_ ?_|refine WF ?_|refine W1 rfl ?_ ?_|refine W2 rfl ?_ ?_|refine W3 rfl ?_ ?_|refine W4 ?_ ?_|refine W5 rfl ?_ ?_|refine W6 ?_ ?_|refine WN ?_|refine X1 (W1 rfl ?_ ?_)|refine X1 (W2 rfl ?_ ?_)|refine X2 (W7 rfl ?_ ?_)|refine X3 (W7 rfl ?_ ?_)|refine X4 (W7 rfl ?_ ?_)|refine X5 (W7 rfl ?_ ?_))
    all_goals (try (conv => whnf))
    all_goals (try first|exact obA|refine Ob.mk ?_)
    all_goals (try simp only [Int.toNat_natCast] at *)
    all_goals (try (have hlt : i < t.length := by have := of_decide_eq_true ‹decide ((i : Int) < (t.length : Int)) = true›;omega))
    all_goals (try (have hA : qb6 t i = false := by assumption))
    all_goals (try (have hUp := fU hA hlt))
    all_goals (try (have hge := of_decide_eq_true (show decide ((ndR t i).up ≥ 0) = true by assumption);first
      | exact hUp.resolve_left (by omega)
      | exact Nat.le_trans (h2 _) (by omega)
      | (show Int.toNat (ndR t i).up < _;omega)))
    all_goals (try (rw [qCS _ _ i hlt (fA (by assumption))];rfl))
    all_goals (try (rw [qCS _ _ i hlt (fB (by assumption))];rfl))
    · have hB : qwX t i = false := by assumption
      have fK : ∀ k,k ∈ (ndR t i).kids → qnC t i k = true → okN t i = false := fun k hk h => by
        unfold okN
        rw [hA,hB]
        simp only [Bool.not_false,Bool.true_and,List.all_eq_false]
        exact ⟨k,hk,by rw [h];decide⟩
      have hkl : (ndR t i).kids.length ≤ 1000 := by have := h2 (i : Int);unfold nd at this;rw [Int.toNat_natCast] at this;exact this
      refine LoopStop.mk (α := Nat) (fun j => [(5,.int .i64 j)]) (fun _ => []) 60 (fun j => j ≤ (ndR t i).kids.length ∧ ∀ k,k < j → qnC t i ((ndR t i).kids.getD k 0) = false) (fun j => (ndR t i).kids.length - j) 0 ⟨Nat.zero_le _,fun k hk => absurd hk (Nat.not_lt_zero _)⟩ ?_ (fun j hj => ?_)
      · all_goals exact vcA
      · obtain ⟨hj,hjall⟩ := hj
        repeat' ((conv => whnf);first|(with_reducible first|rfl|exact qAH|exact qAG)|exact True.intro|intro _|refine WA ?_ ?_|refine WF ?_|refine W1 rfl ?_ ?_|refine W2 rfl ?_ ?_|refine W3 rfl ?_ ?_|refine W4 ?_ ?_|refine W5 rfl ?_ ?_|refine W6 ?_ ?_|refine WN ?_|refine X1 (W1 rfl ?_ ?_)|refine X1 (W2 rfl ?_ ?_)|refine X2 (W7 rfl ?_ ?_)|refine X3 (W7 rfl ?_ ?_)|refine X4 (W7 rfl ?_ ?_)|refine X5 (W7 rfl ?_ ?_))
        all_goals (try (conv => whnf))
        all_goals (try first|exact obA|refine Ob.mk ?_)
        all_goals (try simp only [Int.toNat_natCast] at *)
        all_goals (try (have hjl : j < (ndR t i).kids.length := by have := of_decide_eq_true (show decide ((j : Int) < ((ndR t i).kids.length : Int)) = true by assumption);omega))
        · have h := ‹(decide (_ < (0 : Int)) || decide (_ ≥ (t.length : Int))) = false›
          rw [Bool.or_eq_false_iff] at h
          have a1 := of_decide_eq_false h.1
          have a2 := of_decide_eq_false h.2
          omega
        · have hmem : (ndR t i).kids.getD j 0 ∈ (ndR t i).kids := by
            have e : (ndR t i).kids.getD j 0 = (ndR t i).kids[j] := by simp [List.getD,hjl]
            rw [e];exact List.getElem_mem _
          rw [qCS _ _ i hlt (fK _ hmem (by assumption))];rfl
        · have hk : qnC t i ((ndR t i).kids.getD j 0) = false := by assumption
          refine Rnd.mk ⟨j + 1,⟨by omega,fun k hk' => by (rcases Nat.lt_or_ge k j with q | q);exact hjall k q;(have : k = j := by omega);subst this;exact hk⟩,by omega,?_,?_,?_⟩
          all_goals exact vcA
        · have hje : j = (ndR t i).kids.length := by have := of_decide_eq_false (show decide ((j : Int) < ((ndR t i).kids.length : Int)) = false by assumption);omega
          have hok : okN t i = true := by
            unfold okN
            rw [hA,hB]
            simp only [Bool.not_false,Bool.true_and,List.all_eq_true]
            intro k hk
            obtain ⟨m,hm,rfl⟩ := List.getElem_of_mem hk
            have := hjall m (by omega)
            rw [show (ndR t i).kids.getD m 0 = (ndR t i).kids[m] by simp [List.getD,hm]] at this
            rw [this];rfl
          refine Rnd.mk ⟨i + 1,⟨by omega,fun k hk' => by (rcases Nat.lt_or_ge k i with q | q);exact hall k q;(have : k = i := by omega);subst this;exact hok⟩,by omega,?_,?_,?_⟩
          all_goals exact vcA
    · have hie : i = t.length := by have := of_decide_eq_false ‹decide ((i : Int) < (t.length : Int)) = false›;omega
      have e1 : (List.range t.length).all (okN t) = true := qHF _ _ (fun k hk => hall k (by omega))
      have hups : qf7 t := fun x hx => by
        have hx2 : x.toNat < t.length := by omega
        have h := hall x.toNat (by omega)
        have hA : qb6 t x.toNat = false := by unfold okN at h;cases e : qb6 t x.toNat <;> rw [e] at h <;> simp_all
        have e3 : ndR t x.toNat = nd t x := rfl
        by_cases e : x.toNat = 0
        · left
          have : x = 0 := by omega
          subst this;exact hup0
        · unfold qb6 at hA
          rw [decide_eq_true (by omega),Bool.true_and,e3] at hA
          simp only [Bool.or_eq_false_iff] at hA
          have a1 := of_decide_eq_false hA.1.2
          have a2 := of_decide_eq_false hA.2
          omega
      rw [e1,Bool.true_and]
      refine LoopStop.mk (α := Nat) (fun j => [(6,.int .i64 j)]) (fun _ => []) 60 (fun j => j ≤ t.length ∧ ∀ k,k < j → qG6 t (t.length + 1) (k : Nat) = true) (fun j => t.length - j) 0 ⟨Nat.zero_le _,fun k hk => absurd hk (Nat.not_lt_zero _)⟩ ?_ (fun j hj => ?_)
      · all_goals exact vcA
      · obtain ⟨hj,hjall⟩ := hj
        repeat' ((conv => whnf);first|(with_reducible first|rfl|exact qAH|exact qAG)|exact True.intro|intro _|refine WA ?_ ?_|refine WF ?_|refine W1 rfl ?_ ?_|refine W2 rfl ?_ ?_|refine W3 rfl ?_ ?_|refine W4 ?_ ?_|refine W5 rfl ?_ ?_|refine W6 ?_ ?_|refine WN ?_|refine X1 (W1 rfl ?_ ?_)|refine X1 (W2 rfl ?_ ?_)|refine X2 (W7 rfl ?_ ?_)|refine X3 (W7 rfl ?_ ?_)|refine X4 (W7 rfl ?_ ?_)|refine X5 (W7 rfl ?_ ?_))
        all_goals (try (conv => whnf))
        all_goals (try first|exact obA|refine Ob.mk ?_)
        all_goals (try simp only [Int.toNat_natCast] at *)
        all_goals (try (have hjl : j < t.length := by have := of_decide_eq_true ‹decide ((j : Int) < (t.length : Int)) = true›;omega))
        all_goals (try exact ⟨by omega,hups,by omega⟩)
        · have h : qG6 t (t.length + 1) (j : Nat) = false := by simpa using ‹(!qG6 t (t.length + 1) _) = true›
          rw [qCS _ _ j hjl h]
        · have h : qG6 t (t.length + 1) (j : Nat) = true := by simpa using ‹(!qG6 t (t.length + 1) _) = false›
          refine Rnd.mk ⟨j + 1,⟨by omega,fun k hk' => by (rcases Nat.lt_or_ge k j with q | q);exact hjall k q;(have : k = j := by omega);subst this;exact h⟩,by omega,?_,?_,?_⟩
          all_goals exact vcA
        · have hje : j = t.length := by have := of_decide_eq_false ‹decide ((j : Int) < (t.length : Int)) = false›;omega
          rw [qHF _ _ (fun k hk => hjall k (by omega))]
end Go.Vc

namespace Go.Vc
open Go.Proofs
set_option maxRecDepth 10000
set_option maxHeartbeats 4000000
theorem qNZ {a b : List Int} {i : Nat} (ha : i < a.length) (hb : i < b.length) (h : a.take i = b.take i) (h2 : a.getD i 0 = b.getD i 0) : a.take (i+1) = b.take (i+1) := by
 rw [take_snoc a i 0 ha,take_snoc b i 0 hb,h,h2]
instance aEq (a b : List Int) : Fn BB 24 [.rd qAI a,.rd qAI b] True (.bool (a == b)) := by
 refine Fn.intro (N := 26) [0,1,4,5,10,12,13,14,24] [(6,[0,0,1,1,0,0,1,1,3])] Tryz.call24 Tryz.func24 rfl rfl (by kernel_rfl) (fun hpre => ?_)
 repeat' ((conv => whnf);first|(with_reducible first|rfl|exact qAH|exact qAG)|exact True.intro|intro _|refine WA ?_ ?_|refine WF ?_|refine W1 rfl ?_ ?_|refine W2 rfl ?_ ?_|refine W3 rfl ?_ ?_|refine W4 ?_ ?_|refine W5 rfl ?_ ?_|refine W6 ?_ ?_|refine WN ?_|refine X1 (W1 rfl ?_ ?_)|refine X1 (W2 rfl ?_ ?_)|refine X2 (W7 rfl ?_ ?_)|refine X3 (W7 rfl ?_ ?_)|refine X4 (W7 rfl ?_ ?_)|refine X5 (W7 rfl ?_ ?_))
 all_goals (try (conv => whnf))
 all_goals (try first|exact obA|refine Ob.mk ?_)
 ·rename_i h
  have : ¬ a = b := by rintro rfl;simp at h
  simp [this]
 ·refine LoopStop.mk (α := Nat) (fun i => [(13,.int .i64 i)]) (fun i => []) 0 (fun i => i ≤ a.length ∧ a.take i = b.take i) (fun i => a.length - i) 0 (by simp) ?_ (fun i hi => ?_)
  ·repeat' ((conv => whnf);first|(with_reducible first|rfl|exact qAH|exact qAG)|exact True.intro|intro _|refine WA ?_ ?_|refine WF ?_|refine W1 rfl ?_ ?_|refine W2 rfl ?_ ?_|refine W3 rfl ?_ ?_|refine W4 ?_ ?_|refine W5 rfl ?_ ?_|refine W6 ?_ ?_|refine WN ?_|refine X1 (W1 rfl ?_ ?_)|refine X1 (W2 rfl ?_ ?_)|refine X2 (W7 rfl ?_ ?_)|refine X3 (W7 rfl ?_ ?_)|refine X4 (W7 rfl ?_ ?_)|refine X5 (W7 rfl ?_ ?_))
   all_goals (try (conv => whnf))
   all_goals (try rfl)
  ·repeat' ((conv => whnf);first|(with_reducible first|rfl|exact qAH|exact qAG)|exact True.intro|intro _|refine WA ?_ ?_|refine WF ?_|refine W1 rfl ?_ ?_|refine W2 rfl ?_ ?_|refine W3 rfl ?_ ?_|refine W4 ?_ ?_|refine W5 rfl ?_ ?_|refine W6 ?_ ?_|refine WN ?_|refine X1 (W1 rfl ?_ ?_)|refine X1 (W2 rfl ?_ ?_)|refine X2 (W7 rfl ?_ ?_)|refine X3 (W7 rfl ?_ ?_)|refine X4 (W7 rfl ?_ ?_)|refine X5 (W7 rfl ?_ ?_))
   all_goals (try (conv => whnf))
   all_goals (try first|exact obA|refine Ob.mk ?_)
   all_goals (try simp only [ZA,ZB,ZC,ZD,ZE,ZF,ZG,ZH,ZI,ZJ,ZK,ZL,ZM,ZN,ZO,Int.toNat_natCast,UInt8.ofNat_toNat,cast_eq] at *)
   all_goals (try omega)
   ·rename_i h
    have : ¬ a = b := by rintro rfl;exact h rfl
    simp [this]
   ·have h : i < a.length := by omega
    have h' : i < b.length := by omega
    refine Rnd.mk ⟨i + 1,?_,?_,?_⟩
    ·exact ⟨h,qNZ h h' hi.2 ‹_›⟩
    ·omega
    ·all_goals exact vcA
   ·have e : i = a.length := by omega
    subst e
    have h2 := hi.2
    have h3 : b.length ≤ a.length := by omega
    rw [List.take_of_length_le (Nat.le_refl _),List.take_of_length_le h3] at h2
    rw [h2];simp
end Go.Vc

namespace Go.Vc
open Go.Proofs
open Go.Vc.W
set_option maxRecDepth 10000
set_option maxHeartbeats 4000000
theorem qiO {t : List qAE} {m : Int} (h : qBW t m = true) (i : Int) : (nd t i).kids.length ≤ 60 := by
 by_cases hi : 0 ≤ i ∧ i < t.length
 ·exact (qDH (qKU h i hi)).2.2.2
 ·by_cases h2 : i.toNat < t.length
  ·have e : nd t i = nd t (i.toNat : Int) := rfl
   rw [e];exact (qDH (qKU h (i.toNat : Int) ⟨by omega,by omega⟩)).2.2.2
  ·have : nd t i = qAC.dflt := by unfold nd;rw [List.getD_eq_getElem?_getD,List.getElem?_eq_none (by omega)];rfl
   rw [this];decide
instance iRight (t : List qAE) (m : Int) : Fn BB 11 [.agg [.rd qAC t],.int .i64 m] (m ≤ 45) (.bool (qBW t m && qIX t)) := by
 refine Fn.intro (N := 12) [0,1,2,4] [] Tryz.call11 Tryz.func11 rfl rfl (by kernel_rfl) (fun hpre => ?_)
 repeat' ((conv => whnf);first|(with_reducible first|rfl|exact qAH|exact qAG)|exact True.intro|intro _|refine WA ?_ ?_|refine WF ?_|refine W1 rfl ?_ ?_|refine W2 rfl ?_ ?_|refine W3 rfl ?_ ?_|refine W4 ?_ ?_|refine W5 rfl ?_ ?_|refine W6 ?_ ?_|refine WN ?_|refine X1 (W1 rfl ?_ ?_)|refine X1 (W2 rfl ?_ ?_)|refine X2 (W7 rfl ?_ ?_)|refine X3 (W7 rfl ?_ ?_)|refine X4 (W7 rfl ?_ ?_)|refine X5 (W7 rfl ?_ ?_))
 all_goals (try (conv => whnf))
 all_goals (try first|exact obA|refine Ob.mk ?_)
 all_goals (have h1 := qXW ‹qBW t m = true›;exact ⟨by omega,fun i => Nat.le_trans (qiO ‹qBW t m = true› i) (by decide)⟩)
def qTW (el nm v : List UInt8) (n : qAE) : Bool := n.1 == 1 && ((el == []) || (n.2.1 == 0 && n.2.2.1 == el)) && (qJ8 n.2.2.2.1 nm == v)
def qaP (t : List qAE) (el nm v : List UInt8) : Int := if v = [] then 0 else ((qES t).find? fun i => qTW el nm v (nd t i)).getD 0
theorem qu9 {p : Int → Bool} : ∀ {L : List Int} {k : Nat},k < L.length → (∀ j,j < k → p (L.getD j 0) = false) → p (L.getD k 0) = true → L.find? p = some (L.getD k 0) := by
 intro L
 induction L with
 | nil => intro k h;exact absurd h (Nat.not_lt_zero _)
 | cons a L ih =>
  intro k h h0 h1
  cases k with
  | zero => rw [List.find?_cons];simp only [List.getD_cons_zero] at *;rw [h1]
  | succ k =>
   have ha := h0 0 (Nat.succ_pos _)
   rw [List.getD_cons_zero] at ha
   rw [List.find?_cons,ha]
   exact ih (Nat.lt_of_succ_lt_succ h) (fun j hj => h0 (j + 1) (Nat.succ_lt_succ hj)) h1
theorem qVD {p : Int → Bool} {L : List Int} (h0 : ∀ j,j < L.length → p (L.getD j 0) = false) : L.find? p = none := by
 rw [List.find?_eq_none]
 intro x hx
 obtain ⟨j,hj,e⟩ := List.mem_iff_getElem.1 hx
 have := h0 j hj
 rw [List.getD_eq_getElem?_getD,List.getElem?_eq_getElem hj] at this
 simp only [Option.getD_some,e] at this
 rw [this];decide
def firstT (t : List qAE) (v : List UInt8) : Int := qaP t [] idT v
end Go.Vc

namespace Go.Vc
open Go.Proofs
open Go.Vc.W
set_option maxRecDepth 10000
set_option maxHeartbeats 4000000
def elB (t : List qAE) (i : Int) : Bool := (nd t i).1 == 1
def qDQ (t : List qAE) : List Int := (qES t).filter (elB t)
def qiM (n : qAE) : SV := .agg [.int .i64 n.1,.int .i64 n.2.1,.str n.2.2.1,.rd qAX n.2.2.2.1,.str n.2.2.2.2.1,.int .i64 n.2.2.2.2.2.1,.rd qAI n.2.2.2.2.2.2]
theorem qaE {p : Int → Bool} {L : List Int} {k : Nat} (h : k < L.length) (d : Int) (hp : p (L.getD k d) = true) : (L.filter p).getD ((L.take k).filter p).length d = L.getD k d ∧ ((L.take k).filter p).length < (L.filter p).length := by
 have e : L = L.take k ++ (L.getD k d :: L.drop (k + 1)) := by
  have h2 : L.getD k d = L[k] := by simp [List.getD,h]
  rw [h2,List.getElem_cons_drop,List.take_append_drop]
 have e2 : L.filter p = (L.take k).filter p ++ (L.getD k d :: (L.drop (k + 1)).filter p) := by
  conv => lhs;rw [e]
  rw [List.filter_append,List.filter_cons,if_pos hp]
 rw [e2]
 constructor
 ·rw [List.getD_eq_getElem?_getD,List.getElem?_append_right (Nat.le_refl _),Nat.sub_self];rfl
 ·rw [List.length_append,List.length_cons];omega
instance jElems (t : List qAE) : Fn BB 176 [.agg [.rd qAC t]] True (.fn 207 [.el (.sl qAC) [t] 0 0]) := by
 refine Fn.intro (N := 4) [0,1,2] [] Tryz.call176 Tryz.func176 rfl rfl (by kernel_rfl) (fun hpre => ?_)
 all_goals exact vcA
instance jListY (y : YS) (l : List qAE) : Fn (BB.withY y) 64 [.agg [.rd qAC l]] (l.length ≤ 45) (.rd qAI (qA7 (fin l).L)) := ⟨(oList l).call,(oList l).ok⟩
instance jIt (t : List qAE) : It BB 207 [.el (.sl qAC) [t] 0 0] (qBW t 45 = true) (qDQ t).length (fun k => [.int .i64 ((qDQ t).getD k qAI.dflt),qiM (nd t ((qDQ t).getD k qAI.dflt))]) := by
 refine It.intro (N := 29) [0,1,4,5,7,8,9,10,27] [] 0 Tryz.call207 Tryz.func207 rfl rfl (by kernel_rfl) (fun hpre yl => ?_)
 have hl := qXW hpre
 repeat' ((conv => whnf);first|(with_reducible first|rfl|exact qAH|exact qAG)|exact True.intro|intro _|refine WA ?_ ?_|refine WF ?_|refine W1 rfl ?_ ?_|refine W2 rfl ?_ ?_|refine W3 rfl ?_ ?_|refine W4 ?_ ?_|refine W5 rfl ?_ ?_|refine W6 ?_ ?_|refine WN ?_|refine X1 (W1 rfl ?_ ?_)|refine X1 (W2 rfl ?_ ?_)|refine X2 (W7 rfl ?_ ?_)|refine X3 (W7 rfl ?_ ?_)|refine X4 (W7 rfl ?_ ?_)|refine X5 (W7 rfl ?_ ?_))
 all_goals (try (conv => whnf))
 all_goals (try simp only [List.getD_cons_zero] at *)
 all_goals (try first|exact obA|refine Ob.mk ?_)
 refine LoopStop.mk (α := Nat) (fun k => [(9,.int .i64 k)]) (fun k => [(GID,.gh (some (((qES t).take k).filter (elB t)).length))]) 30 (fun k => k ≤ (qES t).length) (fun k => (qES t).length - k) 0 (Nat.zero_le _) ?_ (fun k hk => ?_)
 ·all_goals exact vcA
 ·by_cases hkl : k < (qES t).length
  ·have hat : 0 ≤ (qA7 (fin t).L).getD k qAI.dflt ∧ (qA7 (fin t).L).getD k qAI.dflt < t.length := qM1 t k hkl _
   have fT := qjW (p := elB t) (L := qA7 (fin t).L) hkl qAI.dflt
   have fF := qhO (p := elB t) (L := qA7 (fin t).L) hkl qAI.dflt
   have fG := qaE (p := elB t) (L := qA7 (fin t).L) hkl qAI.dflt
   repeat' ((conv => whnf);first|(with_reducible first|rfl|exact qAH|exact qAG)|exact True.intro|intro _|refine WA ?_ ?_|refine WF ?_|refine W1 rfl ?_ ?_|refine W2 rfl ?_ ?_|refine W3 rfl ?_ ?_|refine W4 ?_ ?_|refine W5 rfl ?_ ?_|refine W6 ?_ ?_|refine WN ?_|refine X1 (W1 rfl ?_ ?_)|refine X1 (W2 rfl ?_ ?_)|refine X2 (W7 rfl ?_ ?_)|refine X3 (W7 rfl ?_ ?_)|refine X4 (W7 rfl ?_ ?_)|refine X5 (W7 rfl ?_ ?_))
   all_goals (try (conv => whnf))
   all_goals (try simp only [List.getD_cons_zero] at *)
   all_goals (try first|exact obA|refine Ob.mk ?_)
   all_goals (try simp only [Int.toNat_natCast] at *)
   all_goals (try (exact hat))
   all_goals (try (have hq := fT (by assumption)))
   all_goals (try (have hg := fG (by assumption)))
   all_goals (try (have hq := fF (by assumption)))
   all_goals (try (exact hg.2))
   all_goals (try (exact hg.1.symm))
   all_goals (try (have hn : (qDQ t).getD (List.filter (elB t) (List.take k (qES t))).length qAI.dflt = (qA7 (fin t).L).getD k qAI.dflt := hg.1;rw [hn];done))
   all_goals (try (have hql : (List.filter (elB t) (List.take (k + 1) (qES t))).length = (List.filter (elB t) (List.take k (qES t))).length + 1 := by have h := congrArg List.length hq;rw [List.length_append] at h;exact h))
   all_goals (try (refine Rnd.mk ⟨k + 1,by omega,by omega,?_⟩))
   repeat' ((conv => whnf);first|(with_reducible first|rfl|exact qAH|exact qAG)|exact True.intro|intro _|refine WA ?_ ?_|refine WF ?_|refine W1 rfl ?_ ?_|refine W2 rfl ?_ ?_|refine W3 rfl ?_ ?_|refine W4 ?_ ?_|refine W5 rfl ?_ ?_|refine W6 ?_ ?_|refine WN ?_|refine X1 (W1 rfl ?_ ?_)|refine X1 (W2 rfl ?_ ?_)|refine X2 (W7 rfl ?_ ?_)|refine X3 (W7 rfl ?_ ?_)|refine X4 (W7 rfl ?_ ?_)|refine X5 (W7 rfl ?_ ?_))
   all_goals (try (conv => whnf))
   all_goals (try first|exact obA|refine Ob.mk ?_)
   all_goals (first | exact absurd ‹(true && !true) = true› (by decide) | exact absurd ‹(true && !false) = false› (by decide) | exact absurd (Int.ofNat_lt.mpr hkl) (of_decide_eq_false ‹decide ((k : Int) < ((qA7 (fin t).L).length : Int)) = false›) | (rw [hql];done) | exact congrArg (fun l : List Int => Chunk.gh (some l.length)) hq.symm | rfl | trace_state)
  ·have e : k = (qA7 (fin t).L).length := by have h : (qES t).length = (qA7 (fin t).L).length := rfl;omega
   have hx : ∀ {p : Prop},decide ((k : Int) < ((qA7 (fin t).L).length : Int)) = true → p := fun h => by have h := of_decide_eq_true h;omega
   have hE : (List.filter (elB t) (List.take k (qES t))).length = (qDQ t).length := by
    rw [e];show (List.filter (elB t) (List.take (qA7 (fin t).L).length (qA7 (fin t).L))).length = (List.filter (elB t) (qA7 (fin t).L)).length;rw [List.take_length]
   repeat' ((conv => whnf);first|(with_reducible first|rfl|exact qAH|exact qAG)|exact True.intro|intro _|refine WA ?_ ?_|refine WF ?_|refine W1 rfl ?_ ?_|refine W2 rfl ?_ ?_|refine W3 rfl ?_ ?_|refine W4 ?_ ?_|refine W5 rfl ?_ ?_|refine W6 ?_ ?_|refine WN ?_|refine X1 (W1 rfl ?_ ?_)|refine X1 (W2 rfl ?_ ?_)|refine X2 (W7 rfl ?_ ?_)|refine X3 (W7 rfl ?_ ?_)|refine X4 (W7 rfl ?_ ?_)|refine X5 (W7 rfl ?_ ?_))
   all_goals (try (conv => whnf))
   all_goals (try simp only [List.getD_cons_zero] at *)
   all_goals (try first|exact obA|refine Ob.mk ?_)
   all_goals (try exact hx (by assumption))
   all_goals (try (refine Rnd.mk ?_;exact hx (by assumption)))
   all_goals (first | exact hE | trace_state)
def hasB (l : List qAD) (nm v : List UInt8) : Bool := !(v == []) && (qJ8 l nm == v)
instance jHas (k s : Int) (nn : List UInt8) (at_ : List qAD) (d : List UInt8) (up : Int) (kids : List Int) (nm v : List UInt8) :
  Fn BB 143 [.agg [.int .i64 k,.int .i64 s,.str nn,.rd qAX at_,.str d,.int .i64 up,.rd qAI kids],.str nm,.str v] (at_.length ≤ 100000) (.bool (hasB at_ nm v)) := by
 refine Fn.intro (N := 23) [0,1,2,3,6,7] [] Tryz.call143 Tryz.func143 rfl rfl (by kernel_rfl) (fun hpre => ?_)
 repeat' ((conv => whnf);first|(with_reducible first|rfl|exact qAH|exact qAG)|exact True.intro|intro _|refine WA ?_ ?_|refine WF ?_|refine W1 rfl ?_ ?_|refine W2 rfl ?_ ?_|refine W3 rfl ?_ ?_|refine W4 ?_ ?_|refine W5 rfl ?_ ?_|refine W6 ?_ ?_|refine WN ?_|refine X1 (W1 rfl ?_ ?_)|refine X1 (W2 rfl ?_ ?_)|refine X2 (W7 rfl ?_ ?_)|refine X3 (W7 rfl ?_ ?_)|refine X4 (W7 rfl ?_ ?_)|refine X5 (W7 rfl ?_ ?_))
 all_goals (try (conv => whnf))
 all_goals (try first|exact obA|refine Ob.mk ?_)
 all_goals (try rfl)
 all_goals trace_state
instance jFirst1 (k s : Int) (nn : List UInt8) (at_ : List qAD) (d : List UInt8) (up : Int) (kids : List Int) (id : List UInt8) :
  FnM BB 142 [.agg [.int .i64 k,.int .i64 s,.str nn,.rd qAX at_,.str d,.int .i64 up,.rd qAI kids],.loc 0 0] [(0,.box [.str id])] (at_.length ≤ 100000) (.bool (hasB at_ idT id)) [(0,.box [.str id])] := by
 refine FnM.intro (N := 7) [0,1,2,3] [] 1 Tryz.call142 Tryz.func142 rfl rfl (by kernel_rfl) (fun hpre => ?_)
 repeat' ((conv => whnf);first|(with_reducible first|rfl|exact qAH|exact qAG)|exact True.intro|intro _|refine WA ?_ ?_|refine WF ?_|refine W1 rfl ?_ ?_|refine W2 rfl ?_ ?_|refine W3 rfl ?_ ?_|refine W4 ?_ ?_|refine W5 rfl ?_ ?_|refine W6 ?_ ?_|refine WN ?_|refine X1 (W1 rfl ?_ ?_)|refine X1 (W2 rfl ?_ ?_)|refine X2 (W7 rfl ?_ ?_)|refine X3 (W7 rfl ?_ ?_)|refine X4 (W7 rfl ?_ ?_)|refine X5 (W7 rfl ?_ ?_))
 all_goals (try (conv => whnf))
 all_goals (try first|exact obA|refine Ob.mk ?_)
 all_goals (try rfl)
 all_goals trace_state
theorem qI5 (t : List qAE) (id : List UInt8) : firstT t id = ((qDQ t).find? fun i => hasB (nd t i).2.2.2.1 idT id).getD 0 := by
 unfold firstT qaP qDQ
 by_cases h : id = []
 ·rw [if_pos h]
  have : ((qES t).filter (elB t)).find? (fun i => hasB (nd t i).2.2.2.1 idT id) = none := by
   rw [List.find?_eq_none];intro x _;unfold hasB;rw [h];simp
  rw [this];rfl
 ·rw [if_neg h,List.find?_filter]
  congr 2
  funext i
  unfold qTW hasB elB
  rw [beq_eq_false_iff_ne.2 h]
  cases ((nd t i).1 == 1) <;> cases (qJ8 (nd t i).2.2.2.1 idT == id) <;> rfl
instance jFirst (t : List qAE) (id : List UInt8) : FnM BB 141 [.agg [.rd qAC t],.fn 142 [.loc 0 0]] [(0,.box [.str id])] (qBW t 45 = true) (.int .i64 (firstT t id)) [(0,.box [.str id])] := by
 refine FnM.intro (N := 15) [0,1,2,3,4,5,6,8,9,10,13] [] 1 Tryz.call141 Tryz.func141 rfl rfl (by kernel_rfl) (fun hpre => ?_)
 have hl := qXW hpre
 repeat' ((conv => whnf);first|(with_reducible first|rfl|exact qAH|exact qAG)|exact True.intro|intro _|refine WA ?_ ?_|refine WF ?_|refine W1 rfl ?_ ?_|refine W2 rfl ?_ ?_|refine W3 rfl ?_ ?_|refine W4 ?_ ?_|refine W5 rfl ?_ ?_|refine W6 ?_ ?_|refine WN ?_|refine X1 (W1 rfl ?_ ?_)|refine X1 (W2 rfl ?_ ?_)|refine X2 (W7 rfl ?_ ?_)|refine X3 (W7 rfl ?_ ?_)|refine X4 (W7 rfl ?_ ?_)|refine X5 (W7 rfl ?_ ?_))
 all_goals (try (conv => whnf))
 all_goals (try first|exact obA|refine Ob.mk ?_)
 have hel : ∀ i,i < (qDQ t).length → 0 ≤ (qDQ t).getD i qAI.dflt ∧ (qDQ t).getD i qAI.dflt < t.length := fun i hi => by
  have hm : (qDQ t).getD i qAI.dflt ∈ qES t := by
   have : (qDQ t).getD i qAI.dflt ∈ qDQ t := by rw [List.getD_eq_getElem?_getD,List.getElem?_eq_getElem hi];exact List.getElem_mem _
   exact (List.mem_filter.1 this).1
  obtain ⟨j,hj,e⟩ := List.mem_iff_getElem.1 hm
  have := qM1 t j hj 0
  rw [List.getD_eq_getElem?_getD,List.getElem?_eq_getElem hj] at this
  rw [← e];exact this
 refine RangeStop.mkF (α := Unit) ⟨hpre⟩ rfl (fun _ => [(1,.box [.und])]) 30 (fun i _ => ∀ j,j < i → hasB (nd t ((qDQ t).getD j 0)).2.2.2.1 idT id = false) () (fun j hj => absurd hj (Nat.not_lt_zero _)) ?_ (fun i k hC hi => ?_) (fun k hC => ?_)
 ·all_goals exact vcA
 ·repeat' ((conv => whnf);first|(with_reducible first|rfl|exact qAH|exact qAG)|exact True.intro|intro _|refine WA ?_ ?_|refine WF ?_|refine W1 rfl ?_ ?_|refine W2 rfl ?_ ?_|refine W3 rfl ?_ ?_|refine W4 ?_ ?_|refine W5 rfl ?_ ?_|refine W6 ?_ ?_|refine WN ?_|refine X1 (W1 rfl ?_ ?_)|refine X1 (W2 rfl ?_ ?_)|refine X2 (W7 rfl ?_ ?_)|refine X3 (W7 rfl ?_ ?_)|refine X4 (W7 rfl ?_ ?_)|refine X5 (W7 rfl ?_ ?_))
  all_goals (try (conv => whnf))
  all_goals (try first|exact obA|refine Ob.mk ?_)
  ·exact Nat.le_trans (qDH (qKU hpre _ (hel i hi))).2.1 (by decide)
  ·rw [qI5,qu9 (p := fun i => hasB (nd t i).2.2.2.1 idT id) hi hC (by assumption)];rfl
  ·refine Rnd.mk ⟨(),fun j hj => ?_,?_⟩
   ·rcases Nat.lt_or_ge j i with q | q
    ·exact hC j q
    ·have e : j = i := by omega
     rw [e];assumption
   ·all_goals exact vcA
 ·repeat' ((conv => whnf);first|(with_reducible first|rfl|exact qAH|exact qAG)|exact True.intro|intro _|refine WA ?_ ?_|refine WF ?_|refine W1 rfl ?_ ?_|refine W2 rfl ?_ ?_|refine W3 rfl ?_ ?_|refine W4 ?_ ?_|refine W5 rfl ?_ ?_|refine W6 ?_ ?_|refine WN ?_|refine X1 (W1 rfl ?_ ?_)|refine X1 (W2 rfl ?_ ?_)|refine X2 (W7 rfl ?_ ?_)|refine X3 (W7 rfl ?_ ?_)|refine X4 (W7 rfl ?_ ?_)|refine X5 (W7 rfl ?_ ?_))
  all_goals (try (conv => whnf))
  all_goals (try first|exact obA|refine Ob.mk ?_)
  all_goals (rw [qI5,qVD (p := fun i => hasB (nd t i).2.2.2.1 idT id) hC];rfl)
instance jFirstI (t : List qAE) (id : List UInt8) : Fn BB 91 [.agg [.rd qAC t],.str id] (qBW t 45 = true) (.int .i64 (firstT t id)) := by
 refine Fn.intro (N := 8) [0,1,2,3,4] [] Tryz.call91 Tryz.func91 rfl rfl (by kernel_rfl) (fun hpre => ?_)
 repeat' ((conv => whnf);first|(with_reducible first|rfl|exact qAH|exact qAG)|exact True.intro|intro _|refine WA ?_ ?_|refine WF ?_|refine W1 rfl ?_ ?_|refine W2 rfl ?_ ?_|refine W3 rfl ?_ ?_|refine W4 ?_ ?_|refine W5 rfl ?_ ?_|refine W6 ?_ ?_|refine WN ?_|refine X1 (W1 rfl ?_ ?_)|refine X1 (W2 rfl ?_ ?_)|refine X2 (W7 rfl ?_ ?_)|refine X3 (W7 rfl ?_ ?_)|refine X4 (W7 rfl ?_ ?_)|refine X5 (W7 rfl ?_ ?_))
 all_goals (try (conv => whnf))
 all_goals (try first|exact obA|refine Ob.mk ?_)
 all_goals (first | exact hpre | rfl | trace_state)
end Go.Vc

namespace Go.Vc
set_option autoImplicit false
theorem Done.two {n : Nat} {y : St} (d : Done n y) {u v : Nat} (hu : u ∈ y.L) (hv : v ∈ y.L) (h : y.I.getD u (-1) < y.I.getD v (-1)) :
  y.O.getD u (-1) < y.I.getD v (-1) ∨ y.O.getD v (-1) < y.O.getD u (-1) := by
 rcases d.nest u hu v hv h with q | q | q
 ·exact absurd q (d.o hu)
 ·exact .inl q
 ·exact .inr q.2
theorem Good.ne {n : Nat} {y : St} (d : Good n y) {u v : Nat} (hu : u ∈ y.L) (hv : v ∈ y.L) (h : u ≠ v) : y.I.getD u (-1) ≠ y.I.getD v (-1) := by
 have key : ∀ l : List Nat,l.Pairwise (fun a b => y.I.getD a (-1) < y.I.getD b (-1)) → u ∈ l → v ∈ l → y.I.getD u (-1) ≠ y.I.getD v (-1) := by
  intro l
  induction l with
  | nil => intro _ hu;cases hu
  | cons a l ih =>
   intro hp hu hv
   rw [List.pairwise_cons] at hp
   rcases List.mem_cons.1 hu with e | e
   ·rcases List.mem_cons.1 hv with e' | e'
    ·exact absurd (e.trans e'.symm) h
    ·have := hp.1 v e';rw [← e] at this;omega
   ·rcases List.mem_cons.1 hv with e' | e'
    ·have := hp.1 u e;rw [← e'] at this;omega
    ·exact ih hp.2 e e'
 exact key y.L d.srt hu hv
theorem Done.bnd {n : Nat} {y : St} (d : Done n y) (hn : n ≤ 45) (u : Nat) : -1 ≤ y.I.getD u (-1) ∧ y.I.getD u (-1) ≤ 90 ∧ -1 ≤ y.O.getD u (-1) ∧ y.O.getD u (-1) ≤ 90 := by
 have hm := d.cnt
 have hl := qEX d.nod d.lt
 rw [d.P0] at hm
 simp at hm
 by_cases h : u ∈ y.L
 ·have h1 := d.rI u h
  have h2 := d.rO u h
  have h3 := d.o h
  omega
 ·have := d.out u h
  omega
def qLD (y : St) (i : Nat) (s : List Bool) : Prop := ∀ c : Nat,s.getD c false = true → ∃ u,u < i ∧ u ∈ y.L ∧ (y.I.getD u (-1) = (c : Int) ∨ y.O.getD u (-1) = (c : Int))
theorem qLD.I {n : Nat} {y : St} (d : Done n y) {i : Nat} {s : List Bool} (h : qLD y i s) (hi : i ∈ y.L) : s.getD (y.I.getD i (-1)).toNat false = false := by
 rw [Bool.eq_false_iff]
 intro q
 obtain ⟨u,h1,h2,h3⟩ := h _ q
 have hr := d.rI i hi
 rw [Int.toNat_of_nonneg hr.1] at h3
 rcases h3 with h3 | h3
 ·exact d.ne h2 hi (by omega) h3
 ·exact (d.dis u h2 i hi (d.o h2)).1 h3
theorem qLD.O {n : Nat} {y : St} (d : Done n y) {i : Nat} {s : List Bool} (h : qLD y i s) (hi : i ∈ y.L) : (s.set (y.I.getD i (-1)).toNat true).getD (y.O.getD i (-1)).toNat false = false := by
 have hr := d.rI i hi
 have ho := d.rO i hi
 have ho' := d.o hi
 rw [qAZ,if_neg (by rintro ⟨q,_⟩;omega)]
 rw [Bool.eq_false_iff]
 intro q
 obtain ⟨u,h1,h2,h3⟩ := h _ q
 rw [Int.toNat_of_nonneg (by omega)] at h3
 rcases h3 with h3 | h3
 ·exact (d.dis i hi u h2 ho').1 h3.symm
 ·have := (d.dis i hi u h2 ho').2 h3
  omega
theorem qLD.next {n : Nat} {y : St} (d : Done n y) {i : Nat} {s : List Bool} (h : qLD y i s) (hi : i ∈ y.L) : qLD y (i + 1) ((s.set (y.I.getD i (-1)).toNat true).set (y.O.getD i (-1)).toNat true) := by
 have hr := d.rI i hi
 have ho := d.rO i hi
 have ho' := d.o hi
 intro c hc
 rw [qAZ] at hc
 split at hc
 ·rename_i q
  exact ⟨i,by omega,hi,.inr (by omega)⟩
 ·rw [qAZ] at hc
  split at hc
  ·rename_i q
   exact ⟨i,by omega,hi,.inl (by omega)⟩
  ·obtain ⟨u,h1,h2,h3⟩ := h c hc
   exact ⟨u,by omega,h2,h3⟩
theorem qLD.skip {y : St} {i : Nat} {s : List Bool} (h : qLD y i s) : qLD y (i + 1) s := fun c hc => by
 obtain ⟨u,h1,h2,h3⟩ := h c hc
 exact ⟨u,by omega,h2,h3⟩
theorem qDI (l : List qAE) : Done l.length (fin l) := qHQ _ _
theorem qZ9 (l : List qAE) (i : Nat) : qCJ l i = if i ∈ (fin l).L then qRN (fin l) i else [] := by
 unfold qCJ
 have := qaL (qAB l) l.length i
 show (qM7 i (qM0 (qAB l) l.length) []).getD [] = _
 rw [this]
 show (if i ∈ (fin l).L then some (qRN (fin l) i) else none).getD [] = _
 split <;> rfl
end Go.Vc
