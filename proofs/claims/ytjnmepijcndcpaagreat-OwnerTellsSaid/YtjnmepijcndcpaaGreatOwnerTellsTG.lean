/- A part of the proof: lemmas and walks that the last text of the claim joins; no condition. -/
import Derived.Test.YtjnmepijcndcpaaGreatOwnerTellsTF
set_option linter.unusedVariables false
set_option linter.unusedSimpArgs false
set_option maxHeartbeats 8000000
namespace Go.Vc
open Go.Proofs
set_option maxRecDepth 10000
set_option maxHeartbeats 4000000
def fin (l : List qAF) : St := finT (qAB l) l.length
def natI (l : List Nat) : List Int := List.map (fun u : Nat => (u : Int)) l
theorem qG9 (l : List Nat) (v : Nat) : natI (l ++ [v]) = natI l ++ [(v : Int)] := by unfold natI; rw [List.map_append]; rfl
def stA (l : List qAF) (i : Nat) : St := (st0 l.length).run ((evs l).take i)
theorem stA_0 (l : List qAF) : stA l 0 = st0 l.length := rfl
theorem qXK (l : List qAF) : stA l (evs l).length = fin l := by unfold stA fin finT evs; rw [List.take_length]
theorem qR0 (l : List qAF) (i : Nat) (h : i < (evs l).length) : stA l (i + 1) = (stA l i).step ((evs l).getD i (0, 0, 0, false)) := by
 unfold stA
 rw [List.take_succ_eq_append_getElem h, qHE]
 have : (evs l).getD i (0, 0, 0, false) = (evs l)[i] := by simp [List.getD, List.getElem?_eq_getElem h]
 rw [this]; rfl
theorem qTP {n : Nat} : ∀ {l : List Ev} {x : St} (i : Nat), qHJ n x l → qHJ n x (l.take i) := by
 intro l
 induction l with
 | nil => intro x i h; simp; exact h
 | cons e l ih =>
  intro x i h
  cases i with
  | zero => exact trivial
  | succ i => exact ⟨h.1, ih i h.2⟩
theorem qZC {n : Nat} : ∀ {l : List Ev} {x : St} (i : Nat) (d : Ev), qHJ n x l → i < l.length → EvOk n (x.run (l.take i)) (l.getD i d) := by
 intro l
 induction l with
 | nil => intro x i d h hi; cases hi
 | cons e l ih =>
  intro x i d h hi
  cases i with
  | zero => exact h.1
  | succ i => exact ih i d h.2 (by simpa using hi)
theorem qS8 (l : List qAF) (i : Nat) : Good l.length (stA l i) := (qcW _).run (qTP i (qNC (qAB l) l.length).1)
theorem stA_ev (l : List qAF) (i : Nat) (h : i < (evs l).length) : EvOk l.length (stA l i) ((evs l).getD i (0, 0, 0, false)) := qZC i _ (qNC (qAB l) l.length).1 h
theorem stA_m (l : List qAF) (i : Nat) (h : i ≤ (evs l).length) : (stA l i).m = i := by
 unfold stA
 rw [run_m, List.length_take]
 show 0 + min i _ = i
 omega
theorem qZ6 (x : St) (e : Ev) : (x.step e).L = if e.2.2.2 = true then x.L else x.L ++ [e.1] := by unfold St.step; split <;> rfl
instance oList (l : List qAF) : Fn BB 64 [.agg [.rd qAC l]] (l.length ≤ 45) (.rd qAI (natI (fin l).L)) := by
 refine Fn.intro (N := 17) [0, 1, 2, 3, 4, 6, 7, 10] [] Tryz.call64 Tryz.func64 rfl rfl (by kernel_rfl) (fun hpre => ?_)
 repeat' ((conv => whnf);first|(with_reducible first|rfl|exact qAH|exact qAG)|exact True.intro|intro _|refine WA ?_ ?_|refine WF ?_|refine W1 rfl ?_ ?_|refine W2 rfl ?_ ?_|refine W3 rfl ?_ ?_|refine W4 ?_ ?_|refine W5 rfl ?_ ?_|refine W6 ?_ ?_|refine WN ?_|refine X1 (W1 rfl ?_ ?_)|refine X1 (W2 rfl ?_ ?_)|refine X2 (W7 rfl ?_ ?_)|refine X3 (W7 rfl ?_ ?_)|refine X4 (W7 rfl ?_ ?_)|refine X5 (W7 rfl ?_ ?_))
 all_goals (try (conv => whnf))
 all_goals (try first|exact obA|refine Ob.mk ?_)
 have hEl : (evs l).length ≤ 90 := by
  have := qP6 (qAB l) l.length
  show (evsT (qAB l) l.length).length ≤ 90
  omega
 have hlen : ∀ i, (stA l i).L.length ≤ 45 := fun i => by
  have g := qS8 l i
  have := qEO g.nod g.lt
  omega
 refine RangeStop.mk (α := Nat) ⟨hpre⟩ rfl (fun i => [(1, .box [.own 20]), (20, .own qAI (natI (stA l i).L))]) 30 (fun i k => k = i) 0 rfl ?_ (fun i k hC hi => ?_) (fun k hC => ?_)
 ·all_goals exact vcA
 ·subst hC
  have hs := qR0 l k hi
  have hl := hlen k
  generalize he : (evs l).getD k (0, 0, 0, false) = e at *
  obtain ⟨v, up, c, lf⟩ := e
  cases lf
  ·repeat' ((conv => whnf);first|(with_reducible first|rfl|exact qAH|exact qAG)|exact True.intro|intro _|refine WA ?_ ?_|refine WF ?_|refine W1 rfl ?_ ?_|refine W2 rfl ?_ ?_|refine W3 rfl ?_ ?_|refine W4 ?_ ?_|refine W5 rfl ?_ ?_|refine W6 ?_ ?_|refine WN ?_|refine X1 (W1 rfl ?_ ?_)|refine X1 (W2 rfl ?_ ?_)|refine X2 (W7 rfl ?_ ?_)|refine X3 (W7 rfl ?_ ?_)|refine X4 (W7 rfl ?_ ?_)|refine X5 (W7 rfl ?_ ?_))
   all_goals (try (conv => whnf))
   all_goals (try first|exact obA|refine Ob.mk ?_)
   all_goals (try (exfalso; have h := ‹(!false) = false›; cases h; done))
   ·simp only [cast_eq]; unfold natI; simp; omega
   ·refine Rnd.mk ⟨k + 1, rfl, ?_⟩
    repeat' ((conv => whnf);first|(with_reducible first|rfl|exact qAH|exact qAG)|exact True.intro|intro _|refine WA ?_ ?_|refine WF ?_|refine W1 rfl ?_ ?_|refine W2 rfl ?_ ?_|refine W3 rfl ?_ ?_|refine W4 ?_ ?_|refine W5 rfl ?_ ?_|refine W6 ?_ ?_|refine WN ?_|refine X1 (W1 rfl ?_ ?_)|refine X1 (W2 rfl ?_ ?_)|refine X2 (W7 rfl ?_ ?_)|refine X3 (W7 rfl ?_ ?_)|refine X4 (W7 rfl ?_ ?_)|refine X5 (W7 rfl ?_ ?_))
    all_goals (try (conv => whnf))
    all_goals (try first|exact obA|refine Ob.mk ?_)
    rw [hs, qZ6, if_neg (by simp), qG9]
    try simp only [cast_eq]
  ·repeat' ((conv => whnf);first|(with_reducible first|rfl|exact qAH|exact qAG)|exact True.intro|intro _|refine WA ?_ ?_|refine WF ?_|refine W1 rfl ?_ ?_|refine W2 rfl ?_ ?_|refine W3 rfl ?_ ?_|refine W4 ?_ ?_|refine W5 rfl ?_ ?_|refine W6 ?_ ?_|refine WN ?_|refine X1 (W1 rfl ?_ ?_)|refine X1 (W2 rfl ?_ ?_)|refine X2 (W7 rfl ?_ ?_)|refine X3 (W7 rfl ?_ ?_)|refine X4 (W7 rfl ?_ ?_)|refine X5 (W7 rfl ?_ ?_))
   all_goals (try (conv => whnf))
   all_goals (try first|exact obA|refine Ob.mk ?_)
   all_goals (try (exfalso; have h := ‹(!true) = true›; cases h; done))
   refine Rnd.mk ⟨k + 1, rfl, ?_⟩
   repeat' ((conv => whnf);first|(with_reducible first|rfl|exact qAH|exact qAG)|exact True.intro|intro _|refine WA ?_ ?_|refine WF ?_|refine W1 rfl ?_ ?_|refine W2 rfl ?_ ?_|refine W3 rfl ?_ ?_|refine W4 ?_ ?_|refine W5 rfl ?_ ?_|refine W6 ?_ ?_|refine WN ?_|refine X1 (W1 rfl ?_ ?_)|refine X1 (W2 rfl ?_ ?_)|refine X2 (W7 rfl ?_ ?_)|refine X3 (W7 rfl ?_ ?_)|refine X4 (W7 rfl ?_ ?_)|refine X5 (W7 rfl ?_ ?_))
   all_goals (try (conv => whnf))
   all_goals (try first|exact obA|refine Ob.mk ?_)
   rw [hs, qZ6, if_pos rfl]
 ·subst hC
  rw [qXK]
  all_goals exact vcA
def flat (x : St) : List (Int × Int) := (List.range x.I.length).map fun u => (x.I.getD u (-1), x.O.getD u (-1))
theorem qB7 (x : St) : (flat x).length = x.I.length := by unfold flat; simp
theorem flat_get (x : St) (u : Nat) (h : u < x.I.length) (d : Int × Int) : (flat x).getD u d = (x.I.getD u (-1), x.O.getD u (-1)) := by
 unfold flat; simp [List.getD, h]
theorem qM5 {a b : List (Int × Int)} (hl : a.length = b.length) (h : ∀ u < a.length, ∀ d, a.getD u d = b.getD u d) : a = b := by
 apply List.ext_getElem hl
 intro i h1 h2
 have := h i h1 (0, 0)
 simpa [List.getD, List.getElem?_eq_getElem h1, List.getElem?_eq_getElem h2] using this
theorem qUZ {n : Nat} {x : St} (g : Good n x) {v : Nat} {up : Int} {c : Nat} {lf : Bool} (h : EvOk n x (v, up, c, lf)) :
  flat (x.step (v, up, c, lf)) = (flat x).set v (if lf = true then (((flat x).getD v (0, 0)).1, (x.m : Int)) else ((x.m : Int), -1)) := by
 have hI := g.lI
 have hO := g.lO
 cases lf with
 | true =>
  have h2 := h.2
  rw [if_pos rfl] at h2
  have hv : v ∈ x.P := List.mem_of_getLast? h2
  rw [g.stk, List.mem_filter] at hv
  have hn := g.lt v hv.1
  have e0 : x.step (v, up, c, true) = { x with P := x.P.dropLast, O := x.O.set v (x.m : Int), m := x.m + 1 } := rfl
  rw [e0, if_pos rfl]
  refine qM5 (by rw [qB7, List.length_set, qB7]) fun u hu d => ?_
  rw [qB7] at hu
  dsimp only at hu
  rw [flat_get _ _ (by exact hu), qAX (flat x), qB7, flat_get x u hu, flat_get x v (by rw [hI]; exact hn)]
  dsimp only
  rw [qAX x.O]
  by_cases q : v = u
  ·subst q; rw [if_pos ⟨rfl, by omega⟩, if_pos ⟨rfl, by omega⟩]
  ·rw [if_neg (fun z => q z.1), if_neg (fun z => q z.1)]
 | false =>
  have h2 := h.2
  rw [if_neg (by simp)] at h2
  have e0 : x.step (v, up, c, false) = { x with L := x.L ++ [v], P := x.P ++ [v], I := x.I.set v (x.m : Int), m := x.m + 1 } := rfl
  rw [e0, if_neg (by simp)]
  refine qM5 (by simp [qB7]) fun u hu d => ?_
  rw [qB7] at hu
  dsimp only at hu
  rw [List.length_set] at hu
  have h2 : v < n ∧ v ∉ x.L := h2
  rw [flat_get _ _ (by rw [List.length_set]; exact hu), qAX (flat x), qB7, flat_get x u hu]
  dsimp only
  rw [qAX x.I]
  by_cases q : v = u
  ·subst q; rw [if_pos ⟨rfl, by omega⟩, if_pos ⟨rfl, by omega⟩, (g.out v h2.2).2]
  ·rw [if_neg (fun z => q z.1), if_neg (fun z => q z.1)]
theorem qSO {α : Type} {a b : α} (i n : Nat) (h : i < n) : (List.replicate i a ++ List.replicate (n - i) b).set i a = List.replicate (i + 1) a ++ List.replicate (n - (i + 1)) b := by
 rw [List.set_append_right _ _ (by simp), List.length_replicate, Nat.sub_self]
 obtain ⟨m, hm⟩ : ∃ m, n - i = m + 1 := ⟨n - i - 1, by omega⟩
 rw [hm, List.replicate_succ, List.set_cons_zero, show n - (i + 1) = m by omega, List.replicate_succ']
 simp
theorem qZ2 (l : List qAF) : flat (stA l 0) = List.replicate l.length ((-1, -1) : Int × Int) := by
 rw [stA_0]
 refine qM5 (by rw [qB7]; simp [st0]) fun u hu d => ?_
 rw [qB7] at hu
 rw [flat_get _ _ hu]
 have hu : u < l.length := by simpa [st0] using hu
 show ((List.replicate l.length (-1)).getD u (-1), (List.replicate l.length (-1)).getD u (-1)) = _
 rw [qJ4, List.getD_eq_getElem?_getD, List.getElem?_replicate, if_pos hu]; rfl
instance oMarks (l : List qAF) : Fn BB 62 [.agg [.rd qAC l]] (l.length ≤ 45) (.rd .cpx (flat (fin l))) := by
  refine Fn.intro (N := 45) [0, 1, 2, 3, 4, 5, 11, 12, 13, 20, 21, 23] [(10, [1, 0, 1, 1, 0, 1, 1, 1, 1, 0, 1, 1, 3, 3])] Tryz.call62 Tryz.func62 rfl rfl (by kernel_rfl) (fun hpre => ?_)
  repeat' ((conv => whnf);first|(with_reducible first|rfl|exact qAH|exact qAG)|exact True.intro|intro _|refine WA ?_ ?_|refine WF ?_|refine W1 rfl ?_ ?_|refine W2 rfl ?_ ?_|refine W3 rfl ?_ ?_|refine W4 ?_ ?_|refine W5 rfl ?_ ?_|refine W6 ?_ ?_|refine WN ?_|refine X1 (W1 rfl ?_ ?_)|refine X1 (W2 rfl ?_ ?_)|refine X2 (W7 rfl ?_ ?_)|refine X3 (W7 rfl ?_ ?_)|refine X4 (W7 rfl ?_ ?_)|refine X5 (W7 rfl ?_ ?_))
  all_goals (try (conv => whnf))
  all_goals (try first|exact obA|refine Ob.mk ?_)
  rw [show ((l.length : Int)).toNat = l.length by omega]
  refine LoopStop.mk (α := Nat) (fun i => [(12, .int .i64 i)]) (fun i => [(2, .box [.own 1]), (1, .own .cpx (List.replicate i ((-1, -1) : Int × Int) ++ List.replicate (l.length - i) (0, 0)))]) 20 (fun i => i ≤ l.length) (fun i => l.length - i) 0 (Nat.zero_le _) ?_ (fun i hi => ?_)
  · all_goals exact vcA
  · repeat' ((conv => whnf);first|(with_reducible first|rfl|exact qAH|exact qAG)|exact True.intro|intro _|refine WA ?_ ?_|refine WF ?_|refine W1 rfl ?_ ?_|refine W2 rfl ?_ ?_|refine W3 rfl ?_ ?_|refine W4 ?_ ?_|refine W5 rfl ?_ ?_|refine W6 ?_ ?_|refine WN ?_|refine X1 (W1 rfl ?_ ?_)|refine X1 (W2 rfl ?_ ?_)|refine X2 (W7 rfl ?_ ?_)|refine X3 (W7 rfl ?_ ?_)|refine X4 (W7 rfl ?_ ?_)|refine X5 (W7 rfl ?_ ?_))
    all_goals (try (conv => whnf))
    all_goals (try first|exact obA|refine Ob.mk ?_)
    all_goals (try simp only [Int.toNat_natCast, List.length_replicate] at *)
    all_goals (try (have hlt : i < l.length := by have h := of_decide_eq_true ‹decide ((i : Int) < (l.length : Int)) = true›; omega))
    · simp only [List.length_append, List.length_replicate]; omega
    · simp only [List.length_append, List.length_replicate]; omega
    · refine Rnd.mk ⟨i + 1, ⟨by omega, by omega, ?_⟩⟩
      repeat' ((conv => whnf);first|(with_reducible first|rfl|exact qAH|exact qAG)|exact True.intro|intro _|refine WA ?_ ?_|refine WF ?_|refine W1 rfl ?_ ?_|refine W2 rfl ?_ ?_|refine W3 rfl ?_ ?_|refine W4 ?_ ?_|refine W5 rfl ?_ ?_|refine W6 ?_ ?_|refine WN ?_|refine X1 (W1 rfl ?_ ?_)|refine X1 (W2 rfl ?_ ?_)|refine X2 (W7 rfl ?_ ?_)|refine X3 (W7 rfl ?_ ?_)|refine X4 (W7 rfl ?_ ?_)|refine X5 (W7 rfl ?_ ?_))
      all_goals (try (conv => whnf))
      all_goals (try first|exact obA|refine Ob.mk ?_)
      all_goals (try rfl)
      rw [qSO i l.length hlt]
    · have hin : i = l.length := by have h := of_decide_eq_false ‹decide ((i : Int) < (l.length : Int)) = false›; omega
      subst hin
      have hEl : (evs l).length ≤ 90 := by
        have := qP6 (qAB l) l.length
        show (evsT (qAB l) l.length).length ≤ 90
        omega
      refine RangeStop.mk (α := Nat) ⟨hpre⟩ rfl (fun i => [(2, .box [.own 1]), (1, .own .cpx (flat (stA l i)))]) 40 (fun i k => k = i) 0 rfl ?_ (fun i k hC hi => ?_) (fun k hC => ?_)
      · repeat' ((conv => whnf);first|(with_reducible first|rfl|exact qAH|exact qAG)|exact True.intro|intro _|refine WA ?_ ?_|refine WF ?_|refine W1 rfl ?_ ?_|refine W2 rfl ?_ ?_|refine W3 rfl ?_ ?_|refine W4 ?_ ?_|refine W5 rfl ?_ ?_|refine W6 ?_ ?_|refine WN ?_|refine X1 (W1 rfl ?_ ?_)|refine X1 (W2 rfl ?_ ?_)|refine X2 (W7 rfl ?_ ?_)|refine X3 (W7 rfl ?_ ?_)|refine X4 (W7 rfl ?_ ?_)|refine X5 (W7 rfl ?_ ?_))
        all_goals (try (conv => whnf))
        all_goals (try first|exact obA|refine Ob.mk ?_)
        all_goals (try rfl)
        · show Chunk.own Ty.cpx _ = Chunk.own Ty.cpx _
          rw [Nat.sub_self, List.replicate_zero, List.append_nil, qZ2]
      · subst hC
        have hs := qR0 l k hi
        have hv := stA_ev l k hi
        have g := qS8 l k
        have hm := stA_m l k (Nat.le_of_lt hi)
        generalize he : (evs l).getD k (0, 0, 0, false) = e at *
        obtain ⟨v, up, c, lf⟩ := e
        have hst := qUZ g hv
        have hcm : c = (stA l k).m := hv.1
        have hfl : (flat (stA l k)).length = l.length := by rw [qB7]; exact g.lI
        cases lf
        · have hn : v < l.length := hv.2.1
          repeat' ((conv => whnf);first|(with_reducible first|rfl|exact qAH|exact qAG)|exact True.intro|intro _|refine WA ?_ ?_|refine WF ?_|refine W1 rfl ?_ ?_|refine W2 rfl ?_ ?_|refine W3 rfl ?_ ?_|refine W4 ?_ ?_|refine W5 rfl ?_ ?_|refine W6 ?_ ?_|refine WN ?_|refine X1 (W1 rfl ?_ ?_)|refine X1 (W2 rfl ?_ ?_)|refine X2 (W7 rfl ?_ ?_)|refine X3 (W7 rfl ?_ ?_)|refine X4 (W7 rfl ?_ ?_)|refine X5 (W7 rfl ?_ ?_))
          all_goals (try (conv => whnf))
          all_goals (try first|exact obA|refine Ob.mk ?_)
          all_goals (try simp only [Int.toNat_natCast] at *)
          all_goals (try (rw [hfl]))
          all_goals (try omega)
          refine Rnd.mk ⟨k + 1, rfl, ?_⟩
          repeat' ((conv => whnf);first|(with_reducible first|rfl|exact qAH|exact qAG)|exact True.intro|intro _|refine WA ?_ ?_|refine WF ?_|refine W1 rfl ?_ ?_|refine W2 rfl ?_ ?_|refine W3 rfl ?_ ?_|refine W4 ?_ ?_|refine W5 rfl ?_ ?_|refine W6 ?_ ?_|refine WN ?_|refine X1 (W1 rfl ?_ ?_)|refine X1 (W2 rfl ?_ ?_)|refine X2 (W7 rfl ?_ ?_)|refine X3 (W7 rfl ?_ ?_)|refine X4 (W7 rfl ?_ ?_)|refine X5 (W7 rfl ?_ ?_))
          all_goals (try (conv => whnf))
          all_goals (try first|exact obA|refine Ob.mk ?_)
          rw [hs, hst, if_neg (by simp), hcm]
        · have hn : v < l.length := by
            have h2 := hv.2
            rw [if_pos rfl] at h2
            have h3 : v ∈ (stA l k).P := List.mem_of_getLast? h2
            rw [g.stk, List.mem_filter] at h3
            exact g.lt v h3.1
          repeat' ((conv => whnf);first|(with_reducible first|rfl|exact qAH|exact qAG)|exact True.intro|intro _|refine WA ?_ ?_|refine WF ?_|refine W1 rfl ?_ ?_|refine W2 rfl ?_ ?_|refine W3 rfl ?_ ?_|refine W4 ?_ ?_|refine W5 rfl ?_ ?_|refine W6 ?_ ?_|refine WN ?_|refine X1 (W1 rfl ?_ ?_)|refine X1 (W2 rfl ?_ ?_)|refine X2 (W7 rfl ?_ ?_)|refine X3 (W7 rfl ?_ ?_)|refine X4 (W7 rfl ?_ ?_)|refine X5 (W7 rfl ?_ ?_))
          all_goals (try (conv => whnf))
          all_goals (try first|exact obA|refine Ob.mk ?_)
          all_goals (try simp only [Int.toNat_natCast] at *)
          all_goals (try (rw [hfl]))
          all_goals (try omega)
          refine Rnd.mk ⟨k + 1, rfl, ?_⟩
          repeat' ((conv => whnf);first|(with_reducible first|rfl|exact qAH|exact qAG)|exact True.intro|intro _|refine WA ?_ ?_|refine WF ?_|refine W1 rfl ?_ ?_|refine W2 rfl ?_ ?_|refine W3 rfl ?_ ?_|refine W4 ?_ ?_|refine W5 rfl ?_ ?_|refine W6 ?_ ?_|refine WN ?_|refine X1 (W1 rfl ?_ ?_)|refine X1 (W2 rfl ?_ ?_)|refine X2 (W7 rfl ?_ ?_)|refine X3 (W7 rfl ?_ ?_)|refine X4 (W7 rfl ?_ ?_)|refine X5 (W7 rfl ?_ ?_))
          all_goals (try (conv => whnf))
          all_goals (try first|exact obA|refine Ob.mk ?_)
          rw [hs, hst, hcm]
          try rfl
      · subst hC
        rw [qXK]
        all_goals exact vcA
instance oInside (a b c d : Int) : Fn BB 66 [.cpx a b, .cpx c d] (-1 ≤ a ∧ a ≤ 95 ∧ -1 ≤ b ∧ b ≤ 95 ∧ -1 ≤ c ∧ c ≤ 95 ∧ -1 ≤ d ∧ d ≤ 95) (.bool (decide (0 ≤ a) && decide (0 ≤ c) && (decide (c < a) && decide (b < d)))) := by
 refine Fn.intro (N := 25) [0, 1, 4, 5, 13] [] Tryz.call66 Tryz.func66 rfl rfl (by kernel_rfl) (fun hpre => ?_)
 repeat' ((conv => whnf);first|(with_reducible first|rfl|exact qAH|exact qAG)|exact True.intro|intro _|refine WA ?_ ?_|refine WF ?_|refine W1 rfl ?_ ?_|refine W2 rfl ?_ ?_|refine W3 rfl ?_ ?_|refine W4 ?_ ?_|refine W5 rfl ?_ ?_|refine W6 ?_ ?_|refine WN ?_|refine X1 (W1 rfl ?_ ?_)|refine X1 (W2 rfl ?_ ?_)|refine X2 (W7 rfl ?_ ?_)|refine X3 (W7 rfl ?_ ?_)|refine X4 (W7 rfl ?_ ?_)|refine X5 (W7 rfl ?_ ?_))
 all_goals (try (conv => whnf))
 all_goals (try first|exact obA|refine Ob.mk ?_)
 all_goals (try simp only [ZA,ZB,ZC,ZD,ZE,ZF,ZG,ZH,ZI,ZJ,ZK,ZL,ZM,ZN,ZO,Bool.and_eq_false_iff,Bool.or_eq_false_iff,ge_iff_le,gt_iff_lt,Int.toNat_natCast,UInt8.ofNat_toNat,cast_eq] at *)
 ·symm
  rw [Bool.eq_false_iff]
  intro h
  simp only [Bool.and_eq_true, decide_eq_true_eq] at h
  omega
 ·obtain ⟨h1, h2⟩ : 0 ≤ a ∧ 0 ≤ c := ‹_›
  rw [decide_eq_true h1, decide_eq_true h2]
  have e1 : decide (0 < a - c) = decide (c < a) := by rw [Bool.eq_iff_iff, decide_eq_true_eq, decide_eq_true_eq]; omega
  have e2 : decide (b - d < 0) = decide (b < d) := by rw [Bool.eq_iff_iff, decide_eq_true_eq, decide_eq_true_eq]; omega
  rw [e1, e2]; rfl
end Go.Vc

namespace Go.Vc
open Go.Proofs
set_option maxRecDepth 10000
set_option maxHeartbeats 4000000
def qCR (l : List qAF) (v : Int) : List Nat := (qMZ v (evs l) []).getD []
end Go.Vc

namespace Go.Vc
set_option autoImplicit false
def sI (I : List Int) : List Bool := I.map fun v => decide (0 ≤ v)
theorem qGZ (I : List Int) (k m : Nat) : sI (I.set k (m : Int)) = (sI I).set k true := by
 unfold sI; rw [List.map_set, decide_eq_true (by omega : (0 : Int) ≤ (m : Int))]
theorem sI_rep (n : Nat) : sI (List.replicate n (-1)) = List.replicate n false := by
 unfold sI; rw [List.map_replicate]; rfl
theorem qa5 (I : List Int) (k : Nat) (h : k < I.length) : (sI I).getD k true = decide (0 ≤ I.getD k 0) := by
 unfold sI; simp [List.getD, h]
def dR (K : Nat → List Int) (x : St) (i j : Nat) : St := x.run (dfs K (sI x.I) i j x.m).1
variable {K : Nat → List Int}
theorem qMM (x : St) (e : Ev) (l : List Ev) : x.run (e :: l) = (x.step e).run l := rfl
theorem qaB : ∀ (s : List Bool) (i j c : Nat) (x : St), sI x.I = s → x.m = c →
  sI (x.run (dfs K s i j c).1).I = (dfs K s i j c).2.1 ∧ (x.run (dfs K s i j c).1).m = (dfs K s i j c).2.2 := by
 refine qF3 (K := K) ?_ ?_ ?_
 ·intro s i j c h x hs hm
  rw [qCY h]
  exact ⟨hs, by show x.m + 1 = c + 1; rw [hm]⟩
 ·intro s i j c h hk ih x hs hm
  rw [qCW h hk]
  exact ih x hs hm
 ·intro s i j c h hk i1 i2 x hs hm
  rw [qE4 h hk]
  dsimp only
  rw [qMM, qHE]
  have a := i1 (x.step (((K i).getD j 0).toNat, (i : Int), c, false)) (by show sI (x.I.set _ (x.m : Int)) = _; rw [qGZ, hs]) (by show x.m + 1 = c + 1; rw [hm])
  exact i2 _ a.1 a.2
theorem qVH {x : St} {i j : Nat} (h : ¬ j < (K i).length) : dR K x i j = x.step (i, 0, x.m, true) := by
 unfold dR; rw [qCY h]; rfl
theorem qW6 {x : St} {i j : Nat} (h : j < (K i).length) (hk : okK (sI x.I) ((K i).getD j 0) = false) : dR K x i j = dR K x i (j + 1) := by
 unfold dR; rw [qCW h hk]
theorem qa8 {x : St} {i j : Nat} (h : j < (K i).length) (hk : okK (sI x.I) ((K i).getD j 0) = true) :
    dR K x i j = dR K (dR K (x.step (((K i).getD j 0).toNat, (i : Int), x.m, false)) ((K i).getD j 0).toNat 0) i (j + 1) := by
  have hI : sI (x.step (((K i).getD j 0).toNat, (i : Int), x.m, false)).I = (sI x.I).set ((K i).getD j 0).toNat true := qGZ ..
  have hm : (x.step (((K i).getD j 0).toNat, (i : Int), x.m, false)).m = x.m + 1 := rfl
  have a := qaB (K := K) _ ((K i).getD j 0).toNat 0 _ _ hI hm
  have e1 : dR K (x.step (((K i).getD j 0).toNat, (i : Int), x.m, false)) ((K i).getD j 0).toNat 0 =
      (x.step (((K i).getD j 0).toNat, (i : Int), x.m, false)).run (dfs K ((sI x.I).set ((K i).getD j 0).toNat true) ((K i).getD j 0).toNat 0 (x.m + 1)).1 := by
    unfold dR; rw [hI, hm]
  rw [e1]
  generalize hy : (x.step (((K i).getD j 0).toNat, (i : Int), x.m, false)).run (dfs K ((sI x.I).set ((K i).getD j 0).toNat true) ((K i).getD j 0).toNat 0 (x.m + 1)).1 = y at *
  unfold dR
  rw [a.1, a.2, qE4 h hk]
  dsimp only
  rw [qMM, qHE, hy]
theorem dR_ind {P : St → Nat → Nat → Prop} (he : ∀ x i j, ¬ j < (K i).length → P x i j) (hb : ∀ x i j, j < (K i).length → okK (sI x.I) ((K i).getD j 0) = false → P x i (j + 1) → P x i j)
  (ho : ∀ x i j, j < (K i).length → okK (sI x.I) ((K i).getD j 0) = true → P (x.step (((K i).getD j 0).toNat, (i : Int), x.m, false)) ((K i).getD j 0).toNat 0 →
   P (dR K (x.step (((K i).getD j 0).toNat, (i : Int), x.m, false)) ((K i).getD j 0).toNat 0) i (j + 1) → P x i j) : ∀ x i j, P x i j := by
 have main : ∀ (s : List Bool) (i j c : Nat) (x : St), sI x.I = s → x.m = c → P x i j := by
  refine qF3 (K := K) ?_ ?_ ?_
  ·intro s i j c h x hs hm; exact he x i j h
  ·intro s i j c h hk ih x hs hm; subst hs; exact hb x i j h hk (ih x rfl hm)
  ·intro s i j c h hk i1 i2 x hs hm
   subst hs; subst hm
   have hI : sI (x.step (((K i).getD j 0).toNat, (i : Int), x.m, false)).I = (sI x.I).set ((K i).getD j 0).toNat true := qGZ ..
   have a := qaB (K := K) _ ((K i).getD j 0).toNat 0 (x.m + 1) (x.step (((K i).getD j 0).toNat, (i : Int), x.m, false)) hI rfl
   refine ho x i j h hk (i1 _ hI rfl) (i2 _ ?_ ?_)
   ·unfold dR; rw [hI]; exact a.1
   ·unfold dR; rw [hI]; exact a.2
 exact fun x i j => main _ i j _ x rfl rfl
theorem qaP : ∀ (x : St) (i j : Nat), (dR K x i j).m + 2 * unseen (sI (dR K x i j).I) ≤ x.m + 2 * unseen (sI x.I) + 1 ∧ (dR K x i j).I.length = x.I.length ∧ (dR K x i j).O.length = x.O.length ∧
  (dR K x i j).L.length + x.m ≤ x.L.length + (dR K x i j).m ∧ unseen (sI (dR K x i j).I) ≤ unseen (sI x.I) := by
 refine dR_ind (K := K) ?_ ?_ ?_
 ·intro x i j h
  rw [qVH h]
  refine ⟨?_, rfl, List.length_set .., ?_, Nat.le_refl _⟩
  ·show x.m + 1 + _ ≤ _; exact Nat.le_of_eq (by show x.m + 1 + 2 * unseen (sI x.I) = _; omega)
  ·show x.L.length + x.m ≤ x.L.length + (x.m + 1); omega
 ·intro x i j h hk ih
  rw [qW6 h hk]; exact ih
 ·intro x i j h hk i1 i2
  rw [qa8 h hk]
  have hI : sI (x.step (((K i).getD j 0).toNat, (i : Int), x.m, false)).I = (sI x.I).set ((K i).getD j 0).toNat true := qGZ ..
  have hu := qA6 (qBF hk).2.2
  have hm : (x.step (((K i).getD j 0).toNat, (i : Int), x.m, false)).m = x.m + 1 := rfl
  have hL : (x.step (((K i).getD j 0).toNat, (i : Int), x.m, false)).L.length = x.L.length + 1 := by
   show (x.L ++ [_]).length = _; simp
  have hIl : (x.step (((K i).getD j 0).toNat, (i : Int), x.m, false)).I.length = x.I.length := List.length_set ..
  have hOl : (x.step (((K i).getD j 0).toNat, (i : Int), x.m, false)).O.length = x.O.length := rfl
  rw [hI, hm, hL, hIl, hOl] at i1
  exact ⟨by omega, by omega, by omega, by omega, by omega⟩
def StE (x y : St) : Prop := x.L = y.L ∧ x.I = y.I ∧ x.O = y.O ∧ x.m = y.m
theorem StE.step {x y : St} (h : StE x y) {e e' : Ev} (h1 : e.1 = e'.1) (h2 : e.2.2.2 = e'.2.2.2) : StE (x.step e) (y.step e') := by
 obtain ⟨a, b, c, d⟩ := h
 unfold St.step
 rw [← h2]
 split
 ·exact ⟨a, b, by dsimp only; rw [c, d, h1], by dsimp only; rw [d]⟩
 ·exact ⟨by dsimp only; rw [a, h1], by dsimp only; rw [b, d, h1], c, by dsimp only; rw [d]⟩
theorem StE.run : ∀ {l : List Ev} {x y : St}, StE x y → StE (x.run l) (y.run l) := by
 intro l
 induction l with
 | nil => intro x y h; exact h
 | cons e l ih => intro x y h; exact ih (h.step rfl rfl)
theorem StE.dR {x y : St} (h : StE x y) (i j : Nat) : StE (dR K x i j) (dR K y i j) := by
 unfold Go.Vc.dR
 rw [← h.2.1, ← h.2.2.2]
 exact h.run
def wkS (K : Nat → List Int) (L : List Nat) (I O : List Int) (i m : Nat) : St := dR K (({ L := L, P := [], I := I, O := O, m := m } : St).step (i, 0, m, false)) i 0
theorem fin_wk (K : Nat → List Int) (n : Nat) (h : 0 < n) : StE (finT K n) (wkS K [] (List.replicate n (-1)) (List.replicate n (-1)) 0 0) := by
 have e : finT K n = dR K ((st0 n).step (0, -1, 0, false)) 0 0 := by
  unfold finT evsT dR
  rw [if_neg (by omega)]
  have e2 : sI ((st0 n).step (0, -1, 0, false)).I = (List.replicate n false).set 0 true := by
   show sI ((List.replicate n (-1)).set 0 ((0 : Nat) : Int)) = _
   rw [qGZ, sI_rep]
  have e3 : ((st0 n).step (0, -1, 0, false)).m = 1 := rfl
  rw [e2, e3, qMM, runS, runS, List.append_nil]
 rw [e]
 unfold wkS
 exact (StE.step (x := st0 n) ⟨rfl, rfl, rfl, rfl⟩ rfl rfl).dR 0 0
end Go.Vc

namespace Go.Vc
open Go.Proofs
set_option maxRecDepth 10000
set_option maxHeartbeats 4000000
def hPre (t : List qAF) (L : List Nat) (I O : List Int) (k : Int) (m : Nat) : Prop :=
 t.length ≤ 45 ∧ I.length = t.length ∧ O.length = t.length ∧ (0 ≤ k ∧ k < t.length) ∧ m + 2 * unseen (sI (I.set k.toNat (m : Int))) + 2 ≤ 200 ∧ L.length ≤ m
theorem qUK {I : List Int} {n : Nat} (hI : I.length = n) (k : Int) : (decide (k ≥ 0) && decide (k < (n : Int)) && decide (I.getD k.toNat 0 < 0)) = okK (sI I) k := by
  unfold okK
  by_cases h1 : k < 0
  · rw [decide_eq_false (by omega : ¬ k ≥ 0)]; rfl
  · rw [decide_eq_true (by omega : k ≥ 0)]
    by_cases h2 : k < (n : Int)
    · rw [decide_eq_true h2, qa5 I k.toNat (by omega)]
      by_cases h3 : I.getD k.toNat 0 < 0
      · rw [decide_eq_true h3, decide_eq_false (by omega : ¬ 0 ≤ I.getD k.toNat 0)]; rfl
      · rw [decide_eq_false h3, decide_eq_true (by omega : 0 ≤ I.getD k.toNat 0)]; rfl
    · have : (sI I).getD k.toNat true = true := by
        rw [List.getD_eq_getElem?_getD, List.getElem?_eq_none (by unfold sI; rw [List.length_map]; omega)]; rfl
      rw [decide_eq_false h2, this]; rfl
theorem hWalkN (N : Nat) : ∀ (t : List qAF) (L : List Nat) (I O : List Int) (k : Int) (m : Nat),
  FnM BB 117 [.agg [.rd qAC t], .int .i64 k, .own 0, .own 1, .own 2, .int .i64 m] [(0, .own qAI (natI L)), (1, .ow qAI I), (2, .ow qAI O)]
   (hPre t L I O k m ∧ unseen (sI (I.set k.toNat (m : Int))) < N)
   (.tup [.own 0, .int .i64 ((wkS (qAB t) L I O k.toNat m).m : Int)]) [(0, .own qAI (natI (wkS (qAB t) L I O k.toNat m).L)), (1, .ow qAI (wkS (qAB t) L I O k.toNat m).I), (2, .ow qAI (wkS (qAB t) L I O k.toNat m).O)] := by
 induction N with
 | zero => intro t L I O k m; exact ⟨Tryz.call117, fun h => absurd h.2 (Nat.not_lt_zero _)⟩
 | succ N ih =>
  intro t L I O k m
  refine FnM.intro (N := 79) [0, 1, 2, 3, 4, 5, 6, 12, 13, 14, 15, 34, 61] [] 3 Tryz.call117 Tryz.func117 rfl rfl (by kernel_rfl) (fun hpre => ?_)
  repeat' ((conv => whnf);first|(with_reducible first|rfl|exact qAH|exact qAG)|exact True.intro|intro _|refine WA ?_ ?_|refine WF ?_|refine W1 rfl ?_ ?_|refine W2 rfl ?_ ?_|refine W3 rfl ?_ ?_|refine W4 ?_ ?_|refine W5 rfl ?_ ?_|refine W6 ?_ ?_|refine WN ?_|refine X1 (W1 rfl ?_ ?_)|refine X1 (W2 rfl ?_ ?_)|refine X2 (W7 rfl ?_ ?_)|refine X3 (W7 rfl ?_ ?_)|refine X4 (W7 rfl ?_ ?_)|refine X5 (W7 rfl ?_ ?_))
  all_goals (try (conv => whnf))
  all_goals (try first|exact obA|refine Ob.mk ?_)
  all_goals (obtain ⟨⟨ht, hIl, hOl, hk, hm, hL⟩, hN⟩ := hpre)
  ·have : (natI L).length = L.length := by unfold natI; simp
   rw [this, List.length_singleton]
   simp only [bytes3, qWG]
   omega
  ·omega
  ·omega
  ·constructor <;> omega
  generalize hx0 : (({ L := L, P := [], I := I, O := O, m := m } : St).step (k.toNat, 0, m, false)) = x0
  have hxI : x0.I = I.set k.toNat (m : Int) := by rw [← hx0]; rfl
  have hxL : x0.L = L ++ [k.toNat] := by rw [← hx0]; rfl
  have hxO : x0.O = O := by rw [← hx0]; rfl
  have hxm : x0.m = m + 1 := by rw [← hx0]; rfl
  have hwk : wkS (qAB t) L I O k.toNat m = dR (qAB t) x0 k.toNat 0 := by unfold wkS; rw [hx0]
  rw [hwk]
  refine LoopStop.mk (α := St × Nat) (fun a => [(5, .int .i64 a.1.m), (14, .int .i64 a.2)]) (fun a => [(0, .own qAI (natI a.1.L)), (1, .ow qAI a.1.I), (2, .ow qAI a.1.O)]) 60
   (fun a => dR (qAB t) a.1 k.toNat a.2 = dR (qAB t) x0 k.toNat 0 ∧ a.1.I.length = t.length ∧ a.1.O.length = t.length ∧ a.1.m + 2 * unseen (sI a.1.I) + 1 ≤ 200 ∧ a.1.L.length ≤ a.1.m ∧ unseen (sI a.1.I) ≤ N ∧ a.2 ≤ (qAB t k.toNat).length)
   (fun a => (qAB t k.toNat).length - a.2) (x0, 0) ⟨rfl, by rw [hxI, List.length_set]; exact hIl, by rw [hxO]; exact hOl, by rw [hxI, hxm]; omega, by rw [hxL, hxm, List.length_append, List.length_singleton]; omega, by rw [hxI]; omega, Nat.zero_le _⟩ ?_ (fun a ha => ?_)
  ·repeat' ((conv => whnf);first|(with_reducible first|rfl|exact qAH|exact qAG)|exact True.intro|intro _|refine WA ?_ ?_|refine WF ?_|refine W1 rfl ?_ ?_|refine W2 rfl ?_ ?_|refine W3 rfl ?_ ?_|refine W4 ?_ ?_|refine W5 rfl ?_ ?_|refine W6 ?_ ?_|refine WN ?_|refine X1 (W1 rfl ?_ ?_)|refine X1 (W2 rfl ?_ ?_)|refine X2 (W7 rfl ?_ ?_)|refine X3 (W7 rfl ?_ ?_)|refine X4 (W7 rfl ?_ ?_)|refine X5 (W7 rfl ?_ ?_))
   all_goals (try (conv => whnf))
   all_goals (try first|exact obA|refine Ob.mk ?_)
   ·show (m : Int) + 1 = (x0.m : Int); rw [hxm]; omega
   ·show Chunk.own qAI _ = Chunk.own qAI (natI x0.L)
    rw [hxL, qG9, Int.toNat_of_nonneg hk.1]
   ·show Chunk.ow qAI _ = Chunk.ow qAI x0.I
    rw [hxI]
   ·show Chunk.ow qAI _ = Chunk.ow qAI x0.O
    rw [hxO]
  ·obtain ⟨x, j⟩ := a
   dsimp only at ha ⊢
   obtain ⟨hD, hI2, hO2, hm2, hL2, hu2, hj2⟩ := ha
   repeat' ((conv => whnf);first|(with_reducible first|rfl|exact qAH|exact qAG)|exact True.intro|intro _|refine WA ?_ ?_|refine WF ?_|refine W1 rfl ?_ ?_|refine W2 rfl ?_ ?_|refine W3 rfl ?_ ?_|refine W4 ?_ ?_|refine W5 rfl ?_ ?_|refine W6 ?_ ?_|refine WN ?_|refine X1 (W1 rfl ?_ ?_)|refine X1 (W2 rfl ?_ ?_)|refine X2 (W7 rfl ?_ ?_)|refine X3 (W7 rfl ?_ ?_)|refine X4 (W7 rfl ?_ ?_)|refine X5 (W7 rfl ?_ ?_))
   all_goals (try (conv => whnf))
   all_goals (try first|exact obA|refine Ob.mk ?_)
   all_goals (try simp only [Int.toNat_natCast] at *)
   ·rename_i h1 h2 h3
    have hc : okK (sI x.I) ((qAB t k.toNat).getD j 0) = true := by rw [← qUK hI2]; exact h3
    have hks := qBF hc
    have hls : (sI x.I).length = t.length := by unfold sI; rw [List.length_map]; exact hI2
    have hu := qA6 hks.2.2
    rw [← qGZ x.I ((qAB t k.toNat).getD j 0).toNat x.m] at hu
    show hPre t x.L x.I x.O ((qAB t k.toNat).getD j 0) x.m ∧ unseen (sI (x.I.set ((qAB t k.toNat).getD j 0).toNat (x.m : Int))) < N
    exact ⟨⟨ht, hI2, hO2, ⟨hks.1, by omega⟩, by omega, hL2⟩, by omega⟩
   ·rename_i h1 h2 h3
    have hj : j < (qAB t k.toNat).length := by have h := of_decide_eq_true h2; exact Int.ofNat_lt.mp h
    have hc : okK (sI x.I) ((qAB t k.toNat).getD j 0) = true := by rw [← qUK hI2]; exact h3
    rw [qa8 hj hc] at hD
    have hks := qBF hc
    have hu := qA6 hks.2.2
    rw [← qGZ x.I ((qAB t k.toNat).getD j 0).toNat x.m] at hu
    have hb := qaP (K := qAB t) (x.step (((qAB t k.toNat).getD j 0).toNat, (k.toNat : Int), x.m, false)) ((qAB t k.toNat).getD j 0).toNat 0
    have e1 : (x.step (((qAB t k.toNat).getD j 0).toNat, (k.toNat : Int), x.m, false)).m = x.m + 1 := rfl
    have e2 : (x.step (((qAB t k.toNat).getD j 0).toNat, (k.toNat : Int), x.m, false)).I = x.I.set ((qAB t k.toNat).getD j 0).toNat (x.m : Int) := rfl
    have e3 : (x.step (((qAB t k.toNat).getD j 0).toNat, (k.toNat : Int), x.m, false)).O = x.O := rfl
    have e4 : (x.step (((qAB t k.toNat).getD j 0).toNat, (k.toNat : Int), x.m, false)).L.length = x.L.length + 1 := by show (x.L ++ [_]).length = _; simp
    have hE : StE (wkS (qAB t) x.L x.I x.O ((qAB t k.toNat).getD j 0).toNat x.m) (dR (qAB t) (x.step (((qAB t k.toNat).getD j 0).toNat, (k.toNat : Int), x.m, false)) ((qAB t k.toNat).getD j 0).toNat 0) := by
     unfold wkS
     exact StE.dR (StE.step (x := { L := x.L, P := [], I := x.I, O := x.O, m := x.m }) (y := x) ⟨rfl, rfl, rfl, rfl⟩ rfl rfl) _ _
    rw [e1, e2, e3, e4, List.length_set] at hb
    generalize dR (qAB t) (x.step (((qAB t k.toNat).getD j 0).toNat, (k.toNat : Int), x.m, false)) ((qAB t k.toNat).getD j 0).toNat 0 = y at *
    refine Rnd.mk ⟨(y, j + 1), ⟨hD, by show y.I.length = _; omega, by show y.O.length = _; omega, by show y.m + 2 * unseen (sI y.I) + 1 ≤ 200; omega, by show y.L.length ≤ y.m; omega, by show unseen (sI y.I) ≤ N; omega, by show j + 1 ≤ _; omega⟩, by show _ - (j + 1) < _; omega, ?_⟩
    repeat' ((conv => whnf);first|(with_reducible first|rfl|exact qAH|exact qAG)|exact True.intro|intro _|refine WA ?_ ?_|refine WF ?_|refine W1 rfl ?_ ?_|refine W2 rfl ?_ ?_|refine W3 rfl ?_ ?_|refine W4 ?_ ?_|refine W5 rfl ?_ ?_|refine W6 ?_ ?_|refine WN ?_|refine X1 (W1 rfl ?_ ?_)|refine X1 (W2 rfl ?_ ?_)|refine X2 (W7 rfl ?_ ?_)|refine X3 (W7 rfl ?_ ?_)|refine X4 (W7 rfl ?_ ?_)|refine X5 (W7 rfl ?_ ?_))
    all_goals (try (conv => whnf))
    all_goals (try first|exact obA|refine Ob.mk ?_)
    ·show ((wkS (qAB t) x.L x.I x.O ((qAB t k.toNat).getD j 0).toNat x.m).m : Int) = (y.m : Int)
     rw [hE.2.2.2]
    all_goals (try rfl)
    ·show Chunk.own qAI (natI (wkS (qAB t) x.L x.I x.O ((qAB t k.toNat).getD j 0).toNat x.m).L) = Chunk.own qAI (natI y.L)
     rw [hE.1]
    ·show Chunk.ow qAI (wkS (qAB t) x.L x.I x.O ((qAB t k.toNat).getD j 0).toNat x.m).I = Chunk.ow qAI y.I
     rw [hE.2.1]
    ·show Chunk.ow qAI (wkS (qAB t) x.L x.I x.O ((qAB t k.toNat).getD j 0).toNat x.m).O = Chunk.ow qAI y.O
     rw [hE.2.2.1]
   ·rename_i h1 h2 h3
    have hj : j < (qAB t k.toNat).length := by have h := of_decide_eq_true h2; exact Int.ofNat_lt.mp h
    have hc : okK (sI x.I) ((qAB t k.toNat).getD j 0) = false := by rw [← qUK hI2]; exact h3
    rw [qW6 hj hc] at hD
    refine Rnd.mk ⟨(x, j + 1), ⟨hD, hI2, hO2, hm2, hL2, hu2, by show j + 1 ≤ _; omega⟩, by show _ - (j + 1) < _; omega, ?_⟩
    all_goals exact vcA
   all_goals (rename_i h1 h2)
   all_goals (have hj : ¬ j < (qAB t k.toNat).length := by have h := of_decide_eq_false h2; exact fun q => h (Int.ofNat_lt.mpr q))
   all_goals (rw [qVH hj] at hD; rw [← hD])
   ·rfl
   ·rfl
   ·rfl
   ·rfl
instance hWalk (t : List qAF) (L : List Nat) (I O : List Int) (k : Int) (m : Nat) :
  FnM BB 117 [.agg [.rd qAC t], .int .i64 k, .own 0, .own 1, .own 2, .int .i64 m] [(0, .own qAI (natI L)), (1, .ow qAI I), (2, .ow qAI O)]
   (hPre t L I O k m)
   (.tup [.own 0, .int .i64 ((wkS (qAB t) L I O k.toNat m).m : Int)]) [(0, .own qAI (natI (wkS (qAB t) L I O k.toNat m).L)), (1, .ow qAI (wkS (qAB t) L I O k.toNat m).I), (2, .ow qAI (wkS (qAB t) L I O k.toNat m).O)] :=
 have h := hWalkN (unseen (sI (I.set k.toNat (m : Int))) + 1) t L I O k m
 ⟨h.call, fun hp => h.ok ⟨hp, Nat.lt_succ_self _⟩⟩
end Go.Vc

namespace Go.Vc
open Go.Proofs
set_option maxRecDepth 10000
set_option maxHeartbeats 4000000
instance hWalk0 (t : List qAF) (I O : List Int) :
  FnM BB 117 [.agg [.rd qAC t], .int .i64 0, .nils, .own 0, .own 1, .int .i64 0] [(0, .ow qAI I), (1, .ow qAI O)]
   (hPre t [] I O 0 0)
   (.tup [.own 2, .int .i64 ((wkS (qAB t) [] I O 0 0).m : Int)]) [(0, .ow qAI (wkS (qAB t) [] I O 0 0).I), (1, .ow qAI (wkS (qAB t) [] I O 0 0).O), (2, .own qAI (natI (wkS (qAB t) [] I O 0 0).L))] := by
 refine FnM.intro (N := 79) [0, 1, 2, 3, 4, 5, 6, 12, 13, 14, 15, 34, 61] [] 2 Tryz.call117 Tryz.func117 rfl rfl (by kernel_rfl) (fun hpre => ?_)
 repeat' ((conv => whnf);first|(with_reducible first|rfl|exact qAH|exact qAG)|exact True.intro|intro _|refine WA ?_ ?_|refine WF ?_|refine W1 rfl ?_ ?_|refine W2 rfl ?_ ?_|refine W3 rfl ?_ ?_|refine W4 ?_ ?_|refine W5 rfl ?_ ?_|refine W6 ?_ ?_|refine WN ?_|refine X1 (W1 rfl ?_ ?_)|refine X1 (W2 rfl ?_ ?_)|refine X2 (W7 rfl ?_ ?_)|refine X3 (W7 rfl ?_ ?_)|refine X4 (W7 rfl ?_ ?_)|refine X5 (W7 rfl ?_ ?_))
 all_goals (try (conv => whnf))
 all_goals (try first|exact obA|refine Ob.mk ?_)
 all_goals (obtain ⟨ht, hIl, hOl, hk, hm, hL⟩ := hpre)
 ·show 0 ≤ (0 : Int) ∧ (0 : Int) < (I.length : Int); omega
 ·show 0 < I.length; omega
 have hk0 : (0 : Int).toNat = 0 := rfl
 generalize hx0 : (({ L := [], P := [], I := I, O := O, m := 0 } : St).step (0, 0, 0, false)) = x0
 have hxI : x0.I = I.set 0 0 := by rw [← hx0]; rfl
 have hxL : x0.L = [0] := by rw [← hx0]; rfl
 have hxO : x0.O = O := by rw [← hx0]; rfl
 have hxm : x0.m = 1 := by rw [← hx0]; rfl
 have hwk : wkS (qAB t) [] I O 0 0 = dR (qAB t) x0 0 0 := by unfold wkS; rw [hx0]
 rw [hwk]
 have hm : 2 * unseen (sI (I.set 0 0)) + 2 ≤ 200 := by have h : 0 + 2 * unseen (sI (I.set (0 : Int).toNat ((0 : Nat) : Int))) + 2 ≤ 200 := hm; have e : I.set (0 : Int).toNat ((0 : Nat) : Int) = I.set 0 0 := rfl; rw [e] at h; omega
 refine LoopStop.mk (α := St × Nat) (fun a => [(5, .int .i64 a.1.m), (14, .int .i64 a.2)]) (fun a => [(4, .own qAI (natI a.1.L)), (0, .ow qAI a.1.I), (1, .ow qAI a.1.O)]) 60
  (fun a => dR (qAB t) a.1 0 a.2 = dR (qAB t) x0 0 0 ∧ a.1.I.length = t.length ∧ a.1.O.length = t.length ∧ a.1.m + 2 * unseen (sI a.1.I) + 1 ≤ 200 ∧ a.1.L.length ≤ a.1.m ∧ a.2 ≤ (qAB t 0).length)
  (fun a => (qAB t 0).length - a.2) (x0, 0) ⟨rfl, by rw [hxI, List.length_set]; exact hIl, by rw [hxO]; exact hOl, by rw [hxI, hxm]; omega, by rw [hxL, hxm]; decide, Nat.zero_le _⟩ ?_ (fun a ha => ?_)
 ·repeat' ((conv => whnf);first|(with_reducible first|rfl|exact qAH|exact qAG)|exact True.intro|intro _|refine WA ?_ ?_|refine WF ?_|refine W1 rfl ?_ ?_|refine W2 rfl ?_ ?_|refine W3 rfl ?_ ?_|refine W4 ?_ ?_|refine W5 rfl ?_ ?_|refine W6 ?_ ?_|refine WN ?_|refine X1 (W1 rfl ?_ ?_)|refine X1 (W2 rfl ?_ ?_)|refine X2 (W7 rfl ?_ ?_)|refine X3 (W7 rfl ?_ ?_)|refine X4 (W7 rfl ?_ ?_)|refine X5 (W7 rfl ?_ ?_))
  all_goals (try (conv => whnf))
  all_goals (try first|exact obA|refine Ob.mk ?_)
  ·show _ = (x0.m : Int); rw [hxm]; rfl
  ·show Chunk.own qAI _ = Chunk.own qAI (natI x0.L)
   rw [hxL]; rfl
  ·show Chunk.ow qAI _ = Chunk.ow qAI x0.I
   rw [hxI]; rfl
  ·show Chunk.ow qAI _ = Chunk.ow qAI x0.O
   rw [hxO]
 ·obtain ⟨x, j⟩ := a
  dsimp only at ha ⊢
  obtain ⟨hD, hI2, hO2, hm2, hL2, hj2⟩ := ha
  repeat' ((conv => whnf);first|(with_reducible first|rfl|exact qAH|exact qAG)|exact True.intro|intro _|refine WA ?_ ?_|refine WF ?_|refine W1 rfl ?_ ?_|refine W2 rfl ?_ ?_|refine W3 rfl ?_ ?_|refine W4 ?_ ?_|refine W5 rfl ?_ ?_|refine W6 ?_ ?_|refine WN ?_|refine X1 (W1 rfl ?_ ?_)|refine X1 (W2 rfl ?_ ?_)|refine X2 (W7 rfl ?_ ?_)|refine X3 (W7 rfl ?_ ?_)|refine X4 (W7 rfl ?_ ?_)|refine X5 (W7 rfl ?_ ?_))
  all_goals (try (conv => whnf))
  all_goals (try first|exact obA|refine Ob.mk ?_)
  all_goals (try simp only [Int.toNat_natCast] at *)
  ·rename_i h1 h2 h3
   have hc : okK (sI x.I) ((qAB t 0).getD j 0) = true := by rw [← qUK hI2]; exact h3
   have hks := qBF hc
   have hls : (sI x.I).length = t.length := by unfold sI; rw [List.length_map]; exact hI2
   have hu := qA6 hks.2.2
   rw [← qGZ x.I ((qAB t 0).getD j 0).toNat x.m] at hu
   show hPre t x.L x.I x.O ((qAB t 0).getD j 0) x.m
   exact ⟨ht, hI2, hO2, ⟨hks.1, by omega⟩, by omega, hL2⟩
  ·rename_i h1 h2 h3
   have hj : j < (qAB t 0).length := by have h := of_decide_eq_true h2; exact Int.ofNat_lt.mp h
   have hc : okK (sI x.I) ((qAB t 0).getD j 0) = true := by rw [← qUK hI2]; exact h3
   rw [qa8 hj hc] at hD
   have hks := qBF hc
   have hu := qA6 hks.2.2
   rw [← qGZ x.I ((qAB t 0).getD j 0).toNat x.m] at hu
   have hb := qaP (K := qAB t) (x.step (((qAB t 0).getD j 0).toNat, (0 : Int), x.m, false)) ((qAB t 0).getD j 0).toNat 0
   have e1 : (x.step (((qAB t 0).getD j 0).toNat, (0 : Int), x.m, false)).m = x.m + 1 := rfl
   have e2 : (x.step (((qAB t 0).getD j 0).toNat, (0 : Int), x.m, false)).I = x.I.set ((qAB t 0).getD j 0).toNat (x.m : Int) := rfl
   have e3 : (x.step (((qAB t 0).getD j 0).toNat, (0 : Int), x.m, false)).O = x.O := rfl
   have e4 : (x.step (((qAB t 0).getD j 0).toNat, (0 : Int), x.m, false)).L.length = x.L.length + 1 := by show (x.L ++ [_]).length = _; simp
   have hE : StE (wkS (qAB t) x.L x.I x.O ((qAB t 0).getD j 0).toNat x.m) (dR (qAB t) (x.step (((qAB t 0).getD j 0).toNat, (0 : Int), x.m, false)) ((qAB t 0).getD j 0).toNat 0) := by
    unfold wkS
    exact StE.dR (StE.step (x := { L := x.L, P := [], I := x.I, O := x.O, m := x.m }) (y := x) ⟨rfl, rfl, rfl, rfl⟩ rfl rfl) _ _
   rw [e1, e2, e3, e4, List.length_set] at hb
   generalize dR (qAB t) (x.step (((qAB t 0).getD j 0).toNat, (0 : Int), x.m, false)) ((qAB t 0).getD j 0).toNat 0 = y at *
   refine Rnd.mk ⟨(y, j + 1), ⟨hD, by show y.I.length = _; omega, by show y.O.length = _; omega, by show y.m + 2 * unseen (sI y.I) + 1 ≤ 200; omega, by show y.L.length ≤ y.m; omega, by show j + 1 ≤ _; omega⟩, by show _ - (j + 1) < _; omega, ?_⟩
   repeat' ((conv => whnf);first|(with_reducible first|rfl|exact qAH|exact qAG)|exact True.intro|intro _|refine WA ?_ ?_|refine WF ?_|refine W1 rfl ?_ ?_|refine W2 rfl ?_ ?_|refine W3 rfl ?_ ?_|refine W4 ?_ ?_|refine W5 rfl ?_ ?_|refine W6 ?_ ?_|refine WN ?_|refine X1 (W1 rfl ?_ ?_)|refine X1 (W2 rfl ?_ ?_)|refine X2 (W7 rfl ?_ ?_)|refine X3 (W7 rfl ?_ ?_)|refine X4 (W7 rfl ?_ ?_)|refine X5 (W7 rfl ?_ ?_))
   all_goals (try (conv => whnf))
   all_goals (try first|exact obA|refine Ob.mk ?_)
   ·show ((wkS (qAB t) x.L x.I x.O ((qAB t 0).getD j 0).toNat x.m).m : Int) = (y.m : Int)
    rw [hE.2.2.2]
   all_goals (try rfl)
   ·show Chunk.own qAI (natI (wkS (qAB t) x.L x.I x.O ((qAB t 0).getD j 0).toNat x.m).L) = Chunk.own qAI (natI y.L)
    rw [hE.1]
   ·show Chunk.ow qAI (wkS (qAB t) x.L x.I x.O ((qAB t 0).getD j 0).toNat x.m).I = Chunk.ow qAI y.I
    rw [hE.2.1]
   ·show Chunk.ow qAI (wkS (qAB t) x.L x.I x.O ((qAB t 0).getD j 0).toNat x.m).O = Chunk.ow qAI y.O
    rw [hE.2.2.1]
  ·rename_i h1 h2 h3
   have hj : j < (qAB t 0).length := by have h := of_decide_eq_true h2; exact Int.ofNat_lt.mp h
   have hc : okK (sI x.I) ((qAB t 0).getD j 0) = false := by rw [← qUK hI2]; exact h3
   rw [qW6 hj hc] at hD
   refine Rnd.mk ⟨(x, j + 1), ⟨hD, hI2, hO2, hm2, hL2, by show j + 1 ≤ _; omega⟩, by show _ - (j + 1) < _; omega, ?_⟩
   all_goals exact vcA
  all_goals (rename_i h1 h2)
  all_goals (have hj : ¬ j < (qAB t 0).length := by have h := of_decide_eq_false h2; exact fun q => h (Int.ofNat_lt.mpr q))
  all_goals (rw [qVH hj] at hD; rw [← hD])
  ·rfl
  ·rfl
  ·rfl
  ·rfl
theorem qTM (s : List Bool) : unseen s ≤ s.length := by unfold unseen; exact List.count_le_length
instance hAll (l : List qAF) : Fn BB 61 [.agg [.rd qAC l]] (l.length ≤ 45) (.tup [.rd qAI (natI (fin l).L), .rd qAI (fin l).I, .rd qAI (fin l).O]) := by
 refine Fn.intro (N := 42) [0, 1, 2, 3, 4, 5, 6, 7, 8, 20, 31] [(1, [0, 0, 0, 6, 0, 0, 0, 6, 6, 6]), (2000007, [1,2])] Tryz.call61 Tryz.func61 rfl rfl (by kernel_rfl) (fun hpre => ?_)
 repeat' ((conv => whnf);first|(with_reducible first|rfl|exact qAH|exact qAG)|exact True.intro|intro _|refine WA ?_ ?_|refine WF ?_|refine W1 rfl ?_ ?_|refine W2 rfl ?_ ?_|refine W3 rfl ?_ ?_|refine W4 ?_ ?_|refine W5 rfl ?_ ?_|refine W6 ?_ ?_|refine WN ?_|refine X1 (W1 rfl ?_ ?_)|refine X1 (W2 rfl ?_ ?_)|refine X2 (W7 rfl ?_ ?_)|refine X3 (W7 rfl ?_ ?_)|refine X4 (W7 rfl ?_ ?_)|refine X5 (W7 rfl ?_ ?_))
 all_goals (try (conv => whnf))
 all_goals (try first|exact obA|refine Ob.mk ?_)
 all_goals (try simp only [bytes3, qWG] at *)
 all_goals (try omega)
 all_goals (rw [show ((l.length : Int)).toNat = l.length by omega])
 refine LoopStop.mk (α := Nat) (fun i => [(7, .int .i64 i)]) (fun i => [(1, .own qAI (List.replicate i (-1 : Int) ++ List.replicate (l.length - i) (0 : Int))), (2, .own qAI (List.replicate i (-1 : Int) ++ List.replicate (l.length - i) (0 : Int)))]) 40 (fun i => i ≤ l.length) (fun i => l.length - i) 0 (Nat.zero_le _) ?_ (fun i hi => ?_)
 ·all_goals exact vcA
 ·have hrl : (List.replicate i (-1 : Int) ++ List.replicate (l.length - i) (0 : Int)).length = l.length := by simp; omega
  repeat' ((conv => whnf);first|(with_reducible first|rfl|exact qAH|exact qAG)|exact True.intro|intro _|refine WA ?_ ?_|refine WF ?_|refine W1 rfl ?_ ?_|refine W2 rfl ?_ ?_|refine W3 rfl ?_ ?_|refine W4 ?_ ?_|refine W5 rfl ?_ ?_|refine W6 ?_ ?_|refine WN ?_|refine X1 (W1 rfl ?_ ?_)|refine X1 (W2 rfl ?_ ?_)|refine X2 (W7 rfl ?_ ?_)|refine X3 (W7 rfl ?_ ?_)|refine X4 (W7 rfl ?_ ?_)|refine X5 (W7 rfl ?_ ?_))
  all_goals (try (conv => whnf))
  all_goals (try first|exact obA|refine Ob.mk ?_)
  all_goals (try simp only [Int.toNat_natCast] at *)
  all_goals (try rw [hrl] at *)
  all_goals (try (have hlt : i < l.length := by have h := of_decide_eq_true ‹decide ((i : Int) < (l.length : Int)) = true›; omega))
  all_goals (try (have hin : i = l.length := by have h := of_decide_eq_false ‹decide ((i : Int) < (l.length : Int)) = false›; omega))
  ·refine Rnd.mk ⟨i + 1, by omega, by omega, ?_⟩
   repeat' ((conv => whnf);first|(with_reducible first|rfl|exact qAH|exact qAG)|exact True.intro|intro _|refine WA ?_ ?_|refine WF ?_|refine W1 rfl ?_ ?_|refine W2 rfl ?_ ?_|refine W3 rfl ?_ ?_|refine W4 ?_ ?_|refine W5 rfl ?_ ?_|refine W6 ?_ ?_|refine WN ?_|refine X1 (W1 rfl ?_ ?_)|refine X1 (W2 rfl ?_ ?_)|refine X2 (W7 rfl ?_ ?_)|refine X3 (W7 rfl ?_ ?_)|refine X4 (W7 rfl ?_ ?_)|refine X5 (W7 rfl ?_ ?_))
   all_goals (try (conv => whnf))
   all_goals (try first|exact obA|refine Ob.mk ?_)
   all_goals (try rfl)
   all_goals (rw [qSO i l.length hlt])
  all_goals (subst hin; clear hrl)
  all_goals (try simp only [Nat.sub_self, List.replicate_zero, List.append_nil] at *)
  all_goals (try (have hpos : 0 < l.length := by have h := of_decide_eq_true ‹decide ((l.length : Int) > 0) = true›; omega))
  all_goals (try (have hE := fin_wk (qAB l) l.length hpos))
  ·have hu := qTM (sI ((List.replicate l.length (-1 : Int)).set (0 : Int).toNat ((0 : Nat) : Int)))
   have hul : (sI ((List.replicate l.length (-1 : Int)).set (0 : Int).toNat ((0 : Nat) : Int))).length = l.length := by unfold sI; simp
   exact ⟨hpre, by simp, by simp, ⟨by omega, by omega⟩, by omega, Nat.le_refl _⟩
  ·rw [← hE.1]; rfl
  ·rw [← hE.2.1]; rfl
  ·rw [← hE.2.2.1]; rfl
  all_goals (have hz : l.length = 0 := by have h := of_decide_eq_false ‹decide ((l.length : Int) > 0) = false›; omega)
  all_goals (have e : fin l = st0 l.length := by unfold fin finT evsT; rw [if_pos hz]; rfl)
  all_goals (rw [e])
  all_goals rfl
instance hList (l : List qAF) : Fn BB 14 [.agg [.rd qAC l]] (l.length ≤ 45) (.rd qAI (natI (fin l).L)) := by
 refine Fn.intro (N := 13) [0, 1, 2, 3] [] Tryz.call14 Tryz.func14 rfl rfl (by kernel_rfl) (fun hpre => ?_)
 repeat' ((conv => whnf);first|(with_reducible first|rfl|exact qAH|exact qAG)|exact True.intro|intro _|refine WA ?_ ?_|refine WF ?_|refine W1 rfl ?_ ?_|refine W2 rfl ?_ ?_|refine W3 rfl ?_ ?_|refine W4 ?_ ?_|refine W5 rfl ?_ ?_|refine W6 ?_ ?_|refine WN ?_|refine X1 (W1 rfl ?_ ?_)|refine X1 (W2 rfl ?_ ?_)|refine X2 (W7 rfl ?_ ?_)|refine X3 (W7 rfl ?_ ?_)|refine X4 (W7 rfl ?_ ?_)|refine X5 (W7 rfl ?_ ?_))
 all_goals (try (conv => whnf))
 all_goals (try first|exact obA|refine Ob.mk ?_)
 all_goals (first | exact hpre | rfl)
instance hMarks (l : List qAF) : Fn BB 156 [.agg [.rd qAC l]] (l.length ≤ 45) (.tup [.rd qAI (fin l).I, .rd qAI (fin l).O]) := by
 refine Fn.intro (N := 15) [0, 1, 2, 3, 5, 6] [] Tryz.call156 Tryz.func156 rfl rfl (by kernel_rfl) (fun hpre => ?_)
 repeat' ((conv => whnf);first|(with_reducible first|rfl|exact qAH|exact qAG)|exact True.intro|intro _|refine WA ?_ ?_|refine WF ?_|refine W1 rfl ?_ ?_|refine W2 rfl ?_ ?_|refine W3 rfl ?_ ?_|refine W4 ?_ ?_|refine W5 rfl ?_ ?_|refine W6 ?_ ?_|refine WN ?_|refine X1 (W1 rfl ?_ ?_)|refine X1 (W2 rfl ?_ ?_)|refine X2 (W7 rfl ?_ ?_)|refine X3 (W7 rfl ?_ ?_)|refine X4 (W7 rfl ?_ ?_)|refine X5 (W7 rfl ?_ ?_))
 all_goals (try (conv => whnf))
 all_goals (try first|exact obA|refine Ob.mk ?_)
 all_goals (first | exact hpre | rfl)
end Go.Vc

namespace Go.Vc
open Go.Proofs
set_option maxRecDepth 10000
set_option maxHeartbeats 4000000
def bareT (l : List qAF) : List qAF := l.set 0 (0, 0, [], [], [], -1, (l.getD 0 qAC.dflt).kids)
def qcK (x : List qAF) (k : Nat) : List qAF := bareT (putO x (qAB x) [] (List.replicate x.length false) k (-1))
def qTQ (l : List Int) (i : Int) : Option Nat := (List.range l.length).find? fun k => l.getD k 0 == i
def subT (t : List qAF) (i : Int) : List qAF := match qTQ (natI (fin t).L) i with | some k => qcK (qD1 t) k | none => [qW8]
theorem qZR {l : List Int} {i : Int} {k : Nat} (hk : k < l.length) (h : l.getD k 0 = i) (h0 : ∀ j, j < k → l.getD j 0 ≠ i) : qTQ l i = some k := by
 unfold qTQ
 rw [List.find?_eq_some_iff_append]
 refine ⟨by rw [h]; simp, List.range k, (List.range' (k + 1) (l.length - (k + 1))), ?_, fun a ha => ?_⟩
 ·rw [List.range_eq_range', List.range_eq_range', show l.length = k + (1 + (l.length - (k + 1))) by omega, ← List.range'_append_1, ← List.range'_append_1]
  simp
  omega
 ·simpa using h0 a (by simpa using ha)
theorem qKZ {l : List Int} {i : Int} (h0 : ∀ j, j < l.length → l.getD j 0 ≠ i) : qTQ l i = none := by
 unfold qTQ
 rw [List.find?_eq_none]
 intro a ha
 simpa using h0 a (by simpa using ha)
def qTD (t : List qAF) : Prop := qE9 t = true ∧ t.length ≤ 45 ∧ qE9 (qD1 t) = true ∧ (fin t).L.length ≤ (qD1 t).length ∧ (qD1 t).length ≤ 1000
instance hSubN (t : List qAF) (i : Int) : FnM BN 116 [.agg [.rd qAC t], .int .i64 i] [] (qTD t) (.agg [.rd qAC (subT t i)]) [] := by
 refine FnM.intro (N := 67) [0, 1, 2, 4, 5, 7, 8, 9, 10, 30, 39, 47] [(10, [0, 0, 6, 0, 0, 0, 6, 6, 6, 6]), (11, [0, 1, 0, 1, 1, 1, 1, 1, 3, 3])] 0 Tryz.call116 Tryz.func116 rfl rfl (by kernel_rfl) (fun hpre => ?_)
 obtain ⟨h1, h2, h3, h4, h5⟩ := hpre
 have d := qG7 (qAB t) t.length
 have hlI : (fin t).I.length = t.length := d.lI
 have hll : (natI (fin t).L).length = (fin t).L.length := by unfold natI; rw [List.length_map]
 have hL : (fin t).L.length ≤ 45 := by have := qEO d.nod d.lt; have e : (finT (qAB t) t.length).L = (fin t).L := rfl; rw [e] at this; omega
 have pp : ∀ k : Nat, k < (fin t).L.length → pPre (qD1 t) [] (List.replicate (qD1 t).length false) (k : Int) := fun k hk => by
  have h := qIR ((List.replicate (qD1 t).length false).set (k : Int).toNat true)
  rw [List.length_set, List.length_replicate] at h
  exact ⟨h3, List.length_replicate, ⟨by omega, by omega⟩, by show 0 + _ + 1 ≤ 5000; omega⟩
 have hin : ∀ j, j < (natI (fin t).L).length → (natI (fin t).L).getD j 0 = i → 0 ≤ i ∧ i < ((fin t).I.length : Int) ∧ ¬ (fin t).I.getD i.toNat qAI.dflt < 0 := fun j hj e => by
  rw [hll] at hj
  have hm : (fin t).L.getD j 0 ∈ (fin t).L := by rw [List.getD_eq_getElem?_getD, List.getElem?_eq_getElem hj]; exact List.getElem_mem _
  have e2 : (natI (fin t).L).getD j 0 = ((fin t).L.getD j 0 : Nat) := by unfold natI; simp [List.getD, hj]
  have e3 : i.toNat = (fin t).L.getD j 0 := by omega
  have hlt := d.lt _ hm
  have hr := d.rI _ hm
  have e4 : (fin t).I.getD i.toNat qAI.dflt = (finT (qAB t) t.length).I.getD ((fin t).L.getD j 0) (-1) := by
   rw [e3]
   show (fin t).I.getD _ _ = (fin t).I.getD _ _
   simp [List.getD, show (fin t).L[j]?.getD 0 < (fin t).I.length by rw [hlI]; exact hlt]
  rw [e4, hlI]
  have hlt2 : (fin t).L.getD j 0 < t.length := hlt
  omega
 repeat' ((conv => whnf);first|(with_reducible first|rfl|exact qAH|exact qAG)|exact True.intro|intro _|refine WA ?_ ?_|refine WF ?_|refine W1 rfl ?_ ?_|refine W2 rfl ?_ ?_|refine W3 rfl ?_ ?_|refine W4 ?_ ?_|refine W5 rfl ?_ ?_|refine W6 ?_ ?_|refine WN ?_|refine X1 (W1 rfl ?_ ?_)|refine X1 (W2 rfl ?_ ?_)|refine X2 (W7 rfl ?_ ?_)|refine X3 (W7 rfl ?_ ?_)|refine X4 (W7 rfl ?_ ?_)|refine X5 (W7 rfl ?_ ?_))
 all_goals (try (conv => whnf))
 all_goals (try first|exact obA|refine Ob.mk ?_)
 ·have h := ‹(decide (i < 0) || decide (i ≥ ((fin t).I.length : Int))) = false›
  simp only [Bool.or_eq_false_iff, decide_eq_false_iff_not] at h
  omega
 ·have h := ‹(decide (i < 0) || decide (i ≥ ((fin t).I.length : Int)) || decide ((fin t).I.getD i.toNat qAI.dflt < 0)) = true›
  simp only [Bool.or_eq_true, decide_eq_true_eq] at h
  unfold subT
  rw [qKZ (fun j hj e => by have := hin j hj e; omega)]
 refine LoopStop.mk (α := Nat) (fun k => [(9, .int .i64 k)]) (fun _ => []) 20 (fun k => k ≤ (natI (fin t).L).length ∧ ∀ j, j < k → (natI (fin t).L).getD j 0 ≠ i) (fun k => (natI (fin t).L).length - k) 0 ⟨Nat.zero_le _, fun j hj => absurd hj (Nat.not_lt_zero _)⟩ ?_ (fun k hk => ?_)
 ·all_goals exact vcA
 ·obtain ⟨hk, ha⟩ := hk
  repeat' ((conv => whnf);first|(with_reducible first|rfl|exact qAH|exact qAG)|exact True.intro|intro _|refine WA ?_ ?_|refine WF ?_|refine W1 rfl ?_ ?_|refine W2 rfl ?_ ?_|refine W3 rfl ?_ ?_|refine W4 ?_ ?_|refine W5 rfl ?_ ?_|refine W6 ?_ ?_|refine WN ?_|refine X1 (W1 rfl ?_ ?_)|refine X1 (W2 rfl ?_ ?_)|refine X2 (W7 rfl ?_ ?_)|refine X3 (W7 rfl ?_ ?_)|refine X4 (W7 rfl ?_ ?_)|refine X5 (W7 rfl ?_ ?_))
  all_goals (try (conv => whnf))
  all_goals (try first|exact obA|refine Ob.mk ?_)
  all_goals (try simp only [Int.toNat_natCast] at *)
  all_goals (try (have hp : k < (natI (fin t).L).length := by have h := of_decide_eq_true ‹decide ((k : Int) < ((natI (fin t).L).length : Int)) = true›; omega))
  all_goals (try (exact pp k (by omega)))
  all_goals (try (have hlen := qMA (t := qD1 t) (K := qAB (qD1 t)) [] (List.replicate (qD1 t).length false) k (-1)))
  all_goals (try (have hl1 : 1 ≤ (putO (qD1 t) (qAB (qD1 t)) [] (List.replicate (qD1 t).length false) k (-1)).length := hlen.1))
  all_goals clear hlen
  all_goals (try (first | omega | (constructor <;> omega)))
  ·unfold subT
   rw [qZR hp (show (natI (fin t).L).getD k qAI.dflt = i from beq_iff_eq.1 ‹((natI (fin t).L).getD k qAI.dflt == i) = true›) ha]
   rfl
  ·refine Rnd.mk ⟨k + 1, ⟨by omega, fun j hj => ?_⟩, by omega, ?_⟩
   ·rcases Nat.lt_or_ge j k with q | q
    ·exact ha j q
    ·have e : j = k := by omega
     rw [e]; exact fun (q : (natI (fin t).L).getD k qAI.dflt = i) => absurd (beq_iff_eq.2 q) (by rw [‹((natI (fin t).L).getD k qAI.dflt == i) = false›]; decide)
   ·all_goals exact vcA
  ·have e : k = (natI (fin t).L).length := by have h := of_decide_eq_false ‹decide ((k : Int) < ((natI (fin t).L).length : Int)) = false›; omega
   unfold subT
   rw [qKZ (fun j hj => ha j (by omega))]
instance hSub14 (t : List qAF) (i : Int) : Fn BB 116 [.agg [.rd qAC t], .int .i64 i] (qTD t) (.agg [.rd qAC (subT t i)]) :=
 have h := hSubN t i
 ⟨h.call, h.ok⟩
end Go.Vc

namespace Go.Vc
open Go.Proofs
set_option maxRecDepth 10000
set_option maxHeartbeats 4000000
def hitN (nm : List UInt8) (a : qAD) : Bool := a.1 == nm
def ixP {α : Type} (p : α → Bool) : List α → Int
 | [] => -1
 | x :: r => if p x = true then 0 else if ixP p r = -1 then -1 else ixP p r + 1
theorem ixP_ge {α : Type} (p : α → Bool) (l : List α) : -1 ≤ ixP p l ∧ ixP p l < l.length ∨ ixP p l = -1 := by
 induction l with
 | nil => right; rfl
 | cons x r ih =>
  unfold ixP
  simp only [List.length_cons]
  split
  ·left; omega
  ·split
   ·right; rfl
   ·left; rename_i h; rcases ih with h2 | h2 <;> omega
theorem ixP_at {α : Type} {p : α → Bool} {l : List α} {k : Nat} {d : α} (hk : k < l.length) (ha : (l.take k).all (fun x => !p x) = true) (h : p (l.getD k d) = true) : ixP p l = k := by
 induction l generalizing k with
 | nil => simp at hk
 | cons x r ih =>
  cases k with
  | zero => unfold ixP; rw [if_pos (by simpa using h)]; rfl
  | succ k =>
   rw [List.take_succ_cons, List.all_cons, Bool.and_eq_true, Bool.not_eq_true'] at ha
   have := ih (by simpa using hk) ha.2 (by simpa using h)
   unfold ixP
   rw [if_neg (by rw [ha.1]; decide), this, if_neg (by omega)]
   rfl
theorem qZ3 {α : Type} {p : α → Bool} {l : List α} (ha : l.all (fun x => !p x) = true) : ixP p l = -1 := by
 induction l with
 | nil => rfl
 | cons x r ih =>
  rw [List.all_cons, Bool.and_eq_true, Bool.not_eq_true'] at ha
  unfold ixP
  rw [if_neg (by rw [ha.1]; decide), ih ha.2, if_pos rfl]
def getV (l : List qAD) (nm : List UInt8) : List UInt8 := match l.find? (hitN nm) with | some a => a.2 | none => []
theorem qbY {l : List qAD} {nm : List UInt8} {k : Nat} (hk : k < l.length) (ha : (l.take k).all (fun x => !hitN nm x) = true) (h : hitN nm (l.getD k qAT.dflt) = true) : getV l nm = (l.getD k qAT.dflt).2 ∧ l.any (hitN nm) = true := by
 induction l generalizing k with
 | nil => simp at hk
 | cons x r ih =>
  cases k with
  | zero =>
   have h' : hitN nm x = true := h
   unfold getV
   rw [List.find?_cons, h', List.any_cons, h']
   exact ⟨rfl, rfl⟩
  | succ k =>
   rw [List.take_succ_cons, List.all_cons, Bool.and_eq_true, Bool.not_eq_true'] at ha
   have := ih (by simpa using hk) ha.2 h
   unfold getV at *
   rw [List.find?_cons, ha.1, List.any_cons, ha.1, Bool.false_or]
   exact this
theorem qPH {l : List qAD} {nm : List UInt8} (ha : l.all (fun x => !hitN nm x) = true) : getV l nm = [] ∧ l.any (hitN nm) = false := by
 induction l with
 | nil => exact ⟨rfl, rfl⟩
 | cons x r ih =>
  rw [List.all_cons, Bool.and_eq_true, Bool.not_eq_true'] at ha
  have := ih ha.2
  unfold getV at *
  rw [List.find?_cons, ha.1, List.any_cons, ha.1, Bool.false_or]
  exact this
instance tPl1 (a b nm : List UInt8) : FnM BB 175 [.agg [.str a, .str b], .loc 0 0] [(0, .box [.str nm])] True (.bool (a == nm)) [(0, .box [.str nm])] := by
 refine FnM.intro (N := 8) [0, 1, 2, 3] [] 1 Tryz.call175 Tryz.func175 rfl rfl (by kernel_rfl) (fun hpre => ?_)
 all_goals exact vcA
instance xIx (l : List qAD) (nm : List UInt8) : FnM BB 174 [.rd qAT l, .fn 175 [.loc 0 0]] [(0, .box [.str nm])] (l.length ≤ 100000) (.int .i64 (ixP (hitN nm) l)) [(0, .box [.str nm])] := by
 refine FnM.intro (N := 19) [0, 1, 4, 5, 7, 8, 9, 16] [] 1 Tryz.call174 Tryz.func174 rfl rfl (by kernel_rfl) (fun hpre => ?_)
 repeat' ((conv => whnf);first|(with_reducible first|rfl|exact qAH|exact qAG)|exact True.intro|intro _|refine WA ?_ ?_|refine WF ?_|refine W1 rfl ?_ ?_|refine W2 rfl ?_ ?_|refine W3 rfl ?_ ?_|refine W4 ?_ ?_|refine W5 rfl ?_ ?_|refine W6 ?_ ?_|refine WN ?_|refine X1 (W1 rfl ?_ ?_)|refine X1 (W2 rfl ?_ ?_)|refine X2 (W7 rfl ?_ ?_)|refine X3 (W7 rfl ?_ ?_)|refine X4 (W7 rfl ?_ ?_)|refine X5 (W7 rfl ?_ ?_))
 all_goals (try (conv => whnf))
 all_goals (try first|exact obA|refine Ob.mk ?_)
 refine LoopStop.mk (α := Nat) (fun k => [(8, .int .i64 k)]) (fun _ => []) 20 (fun k => k ≤ l.length ∧ (l.take k).all (fun x => !hitN nm x) = true) (fun k => l.length - k) 0 (by simp) ?_ (fun k hk => ?_)
 ·all_goals exact vcA
 ·obtain ⟨hk, ha⟩ := hk
  repeat' ((conv => whnf);first|(with_reducible first|rfl|exact qAH|exact qAG)|exact True.intro|intro _|refine WA ?_ ?_|refine WF ?_|refine W1 rfl ?_ ?_|refine W2 rfl ?_ ?_|refine W3 rfl ?_ ?_|refine W4 ?_ ?_|refine W5 rfl ?_ ?_|refine W6 ?_ ?_|refine WN ?_|refine X1 (W1 rfl ?_ ?_)|refine X1 (W2 rfl ?_ ?_)|refine X2 (W7 rfl ?_ ?_)|refine X3 (W7 rfl ?_ ?_)|refine X4 (W7 rfl ?_ ?_)|refine X5 (W7 rfl ?_ ?_))
  all_goals (try (conv => whnf))
  all_goals (try first|exact obA|refine Ob.mk ?_)
  all_goals (try simp only [Int.toNat_natCast] at *)
  ·have hp := of_decide_eq_true ‹decide ((k : Int) < (l.length : Int)) = true›
   have h : ((l.getD k qAT.dflt).1 == nm) = true := ‹_›
   exact (ixP_at (p := hitN nm) (d := qAT.dflt) (by omega) ha h).symm
  ·have hp := of_decide_eq_true ‹decide ((k : Int) < (l.length : Int)) = true›
   have h : ((l.getD k qAT.dflt).1 == nm) = false := ‹_›
   refine Rnd.mk ⟨k + 1, ⟨by omega, ?_⟩, by omega, ?_⟩
   ·rw [qJD (fun x => !hitN nm x) l k qAT.dflt (by omega), ha]
    show (true && !((l.getD k qAT.dflt).1 == nm)) = true
    rw [h]; rfl
   ·all_goals exact vcA
  ·have hp := of_decide_eq_false ‹decide ((k : Int) < (l.length : Int)) = false›
   have : k = l.length := by omega
   subst this
   rw [List.take_length] at ha
   exact (qZ3 ha).symm
instance xPlace (l : List qAD) (nm : List UInt8) : Fn BB 140 [.rd qAT l, .str nm] (l.length ≤ 100000) (.int .i64 (ixP (hitN nm) l)) := by
 refine Fn.intro (N := 8) [0, 1, 3, 4] [] Tryz.call140 Tryz.func140 rfl rfl (by kernel_rfl) (fun hpre => ?_)
 all_goals exact vcA
theorem qbU (l : List qAD) (nm : List UInt8) : (decide (ixP (hitN nm) l ≥ 0) = l.any (hitN nm)) ∧ (0 ≤ ixP (hitN nm) l → (ixP (hitN nm) l).toNat < l.length ∧ (l.getD (ixP (hitN nm) l).toNat qAT.dflt).2 = getV l nm) ∧ (ixP (hitN nm) l < 0 → getV l nm = []) := by
 induction l with
 | nil => exact ⟨rfl, fun h => absurd (show (0:Int) ≤ -1 from h) (by decide), fun _ => rfl⟩
 | cons x r ih =>
  obtain ⟨i1, i2, i3⟩ := ih
  have hg := ixP_ge (hitN nm) r
  unfold ixP getV
  rw [List.any_cons, List.find?_cons]
  cases h : hitN nm x with
  | true => simp
  | false =>
   simp only [Bool.false_eq_true, if_false, Bool.false_or]
   split
   ·rename_i q
    refine ⟨?_, fun h => absurd h (by decide), fun _ => i3 (by omega)⟩
    rw [← i1, q]
   ·rename_i q
    have h0 : 0 ≤ ixP (hitN nm) r := by rcases hg with h | h <;> omega
    obtain ⟨j1, j2⟩ := i2 h0
    refine ⟨?_, fun _ => ?_, fun h => by omega⟩
    ·rw [← i1, Bool.eq_iff_iff]; simp; omega
    ·rw [show (ixP (hitN nm) r + 1).toNat = (ixP (hitN nm) r).toNat + 1 by omega]
     refine ⟨by rw [List.length_cons]; omega, ?_⟩
     rw [List.getD_cons_succ]; exact j2
instance xGet (l : List qAD) (nm : List UInt8) : Fn BB 90 [.rd qAT l, .str nm] (l.length ≤ 100000) (.tup [.str (getV l nm), .bool (l.any (hitN nm))]) := by
 refine Fn.intro (N := 17) [0, 1, 4, 5, 6, 11] [] Tryz.call90 Tryz.func90 rfl rfl (by kernel_rfl) (fun hpre => ?_)
 obtain ⟨h1, h2, h3⟩ := qbU l nm
 repeat' ((conv => whnf);first|(with_reducible first|rfl|exact qAH|exact qAG)|exact True.intro|intro _|refine WA ?_ ?_|refine WF ?_|refine W1 rfl ?_ ?_|refine W2 rfl ?_ ?_|refine W3 rfl ?_ ?_|refine W4 ?_ ?_|refine W5 rfl ?_ ?_|refine W6 ?_ ?_|refine WN ?_|refine X1 (W1 rfl ?_ ?_)|refine X1 (W2 rfl ?_ ?_)|refine X2 (W7 rfl ?_ ?_)|refine X3 (W7 rfl ?_ ?_)|refine X4 (W7 rfl ?_ ?_)|refine X5 (W7 rfl ?_ ?_))
 all_goals (try (conv => whnf))
 all_goals (try first|exact obA|refine Ob.mk ?_)
 all_goals (first | (have hp := of_decide_eq_true ‹decide (ixP (hitN nm) l ≥ 0) = true›; first | exact (h2 hp).2 | exact (h2 hp).1 | (rw [← h1]; exact (‹decide (ixP (hitN nm) l ≥ 0) = true›).symm)) | (have hp := of_decide_eq_false ‹decide (ixP (hitN nm) l ≥ 0) = false›; first | exact (h3 (by omega)).symm | (rw [← h1]; exact (‹decide (ixP (hitN nm) l ≥ 0) = false›).symm)))
instance xRGet (l : List qAD) (nm : List UInt8) : Fn BB 86 [.rd qAT l, .str nm] (l.length ≤ 100000) (.tup [.str (getV l nm), .bool (l.any (hitN nm))]) := by
 refine Fn.intro (N := 25) [0, 1, 4, 5, 6, 10, 19] [] Tryz.call86 Tryz.func86 rfl rfl (by kernel_rfl) (fun hpre => ?_)
 repeat' ((conv => whnf);first|(with_reducible first|rfl|exact qAH|exact qAG)|exact True.intro|intro _|refine WA ?_ ?_|refine WF ?_|refine W1 rfl ?_ ?_|refine W2 rfl ?_ ?_|refine W3 rfl ?_ ?_|refine W4 ?_ ?_|refine W5 rfl ?_ ?_|refine W6 ?_ ?_|refine WN ?_|refine X1 (W1 rfl ?_ ?_)|refine X1 (W2 rfl ?_ ?_)|refine X2 (W7 rfl ?_ ?_)|refine X3 (W7 rfl ?_ ?_)|refine X4 (W7 rfl ?_ ?_)|refine X5 (W7 rfl ?_ ?_))
 all_goals (try (conv => whnf))
 all_goals (try first|exact obA|refine Ob.mk ?_)
 refine LoopStop.mk (α := Nat) (fun k => [(6, .int .i64 k)]) (fun _ => []) 20 (fun k => k ≤ l.length ∧ (l.take k).all (fun x => !hitN nm x) = true) (fun k => l.length - k) 0 (by simp) ?_ (fun k hk => ?_)
 ·all_goals exact vcA
 ·obtain ⟨hk, ha⟩ := hk
  repeat' ((conv => whnf);first|(with_reducible first|rfl|exact qAH|exact qAG)|exact True.intro|intro _|refine WA ?_ ?_|refine WF ?_|refine W1 rfl ?_ ?_|refine W2 rfl ?_ ?_|refine W3 rfl ?_ ?_|refine W4 ?_ ?_|refine W5 rfl ?_ ?_|refine W6 ?_ ?_|refine WN ?_|refine X1 (W1 rfl ?_ ?_)|refine X1 (W2 rfl ?_ ?_)|refine X2 (W7 rfl ?_ ?_)|refine X3 (W7 rfl ?_ ?_)|refine X4 (W7 rfl ?_ ?_)|refine X5 (W7 rfl ?_ ?_))
  all_goals (try (conv => whnf))
  all_goals (try first|exact obA|refine Ob.mk ?_)
  all_goals (try simp only [Int.toNat_natCast] at *)
  all_goals (try (have hp : k < l.length := by have h := of_decide_eq_true ‹decide ((k : Int) < (l.length : Int)) = true›; omega))
  all_goals (try (have hh := qbY (nm := nm) hp ha (show ((l.getD k qAT.dflt).1 == nm) = true from ‹_›)))
  all_goals (try (have hz : k = l.length := by have h := of_decide_eq_false ‹decide ((k : Int) < (l.length : Int)) = false›; omega))
  all_goals (first | omega | (rw [hh.1]; done) | (rw [hh.2]; done) | (subst hz; rw [List.take_length] at ha; rw [(qPH ha).1]; done) | (subst hz; rw [List.take_length] at ha; rw [(qPH ha).2]; done) | skip)
  have h : ((l.getD k qAT.dflt).1 == nm) = false := ‹_›
  refine Rnd.mk ⟨k + 1, ⟨by omega, ?_⟩, by omega, ?_⟩
  ·rw [qJD (fun x => !hitN nm x) l k qAT.dflt hp, ha]
   show (true && !((l.getD k qAT.dflt).1 == nm)) = true
   rw [h]; rfl
  ·all_goals exact vcA
end Go.Vc

namespace Go.Vc
open Go.Proofs
set_option maxRecDepth 10000
set_option maxHeartbeats 8000000
instance gGetN (nm : List UInt8) : Fn BB 86 [.nils, .str nm] True (.tup [.str [], .bool false]) := by
 refine Fn.intro (N := 25) [0, 1, 4, 5, 6, 10, 19] [] Tryz.call86 Tryz.func86 rfl rfl (by kernel_rfl) (fun hpre => ?_)
 repeat' ((conv => whnf);first|(with_reducible first|rfl|exact qAH|exact qAG)|exact True.intro|intro _|refine WA ?_ ?_|refine WF ?_|refine W1 rfl ?_ ?_|refine W2 rfl ?_ ?_|refine W3 rfl ?_ ?_|refine W4 ?_ ?_|refine W5 rfl ?_ ?_|refine W6 ?_ ?_|refine WN ?_|refine X1 (W1 rfl ?_ ?_)|refine X1 (W2 rfl ?_ ?_)|refine X2 (W7 rfl ?_ ?_)|refine X3 (W7 rfl ?_ ?_)|refine X4 (W7 rfl ?_ ?_)|refine X5 (W7 rfl ?_ ?_))
 all_goals (try (conv => whnf))
 all_goals (try first|exact obA|refine Ob.mk ?_)
 refine LoopStop.mk (α := Unit) (fun k => [(6, .int .i64 0)]) (fun _ => []) 20 (fun k => True) (fun k => 0) () True.intro ?_ (fun k hk => ?_)
 ·all_goals exact vcA
 ·repeat' ((conv => whnf);first|(with_reducible first|rfl|exact qAH|exact qAG)|exact True.intro|intro _|refine WA ?_ ?_|refine WF ?_|refine W1 rfl ?_ ?_|refine W2 rfl ?_ ?_|refine W3 rfl ?_ ?_|refine W4 ?_ ?_|refine W5 rfl ?_ ?_|refine W6 ?_ ?_|refine WN ?_|refine X1 (W1 rfl ?_ ?_)|refine X1 (W2 rfl ?_ ?_)|refine X2 (W7 rfl ?_ ?_)|refine X3 (W7 rfl ?_ ?_)|refine X4 (W7 rfl ?_ ?_)|refine X5 (W7 rfl ?_ ?_))
  all_goals (try (conv => whnf))
  all_goals (try first|exact obA|refine Ob.mk ?_)
  all_goals (first | (exfalso; exact absurd ‹decide ((0 : Int) < 0) = true› (by decide)) | rfl | trace_state)
instance gAddN (a b : List UInt8) : FnM BB 320 [.nils, .agg [.str a, .str b]] [] True (.own 0) [(0, .own qAT [(a, b)])] := by
 refine FnM.intro (N := 25) [0, 1, 3, 4, 5, 7, 19] [] 0 Tryz.call320 Tryz.func320 rfl rfl (by kernel_rfl) (fun hpre => ?_)
 repeat' ((conv => whnf);first|(with_reducible first|rfl|exact qAH|exact qAG)|exact True.intro|intro _|refine WA ?_ ?_|refine WF ?_|refine W1 rfl ?_ ?_|refine W2 rfl ?_ ?_|refine W3 rfl ?_ ?_|refine W4 ?_ ?_|refine W5 rfl ?_ ?_|refine W6 ?_ ?_|refine WN ?_|refine X1 (W1 rfl ?_ ?_)|refine X1 (W2 rfl ?_ ?_)|refine X2 (W7 rfl ?_ ?_)|refine X3 (W7 rfl ?_ ?_)|refine X4 (W7 rfl ?_ ?_)|refine X5 (W7 rfl ?_ ?_))
 all_goals (try (conv => whnf))
 all_goals (try first|exact obA|refine Ob.mk ?_)
 ·rfl
 ·exact absurd ‹(!false) = false› (by decide)
end Go.Vc

namespace Go.Vc
open Go.Proofs
set_option maxRecDepth 10000
set_option maxHeartbeats 8000000
theorem takeM1 (op : List Int) (h : 0 < op.length) : op.take ((op.length : Int) - 1).toNat = op.take (op.length - 1) := by rw [show ((op.length : Int) - 1).toNat = op.length - 1 by omega]
instance xDropA (t : List qAF) (op : List Int) (md bk lx fm hd : Int) (fo sk : Bool) (ins : List UInt8) : FnM BB 281 [.loc 0 0]
  [(0, .box [.own 1, .own 2, .nils, .int .i64 md, .int .i64 bk, .int .i64 lx, .int .i64 fm, .int .i64 hd, .bool fo, .bool sk, .str ins]), (1, .own qAC t), (2, .own qAI op)] (0 < op.length ∧ op.length ≤ 1000) (.tup [])
  [(0, .box [.own 1, .own 3, .nils, .int .i64 md, .int .i64 bk, .int .i64 lx, .int .i64 fm, .int .i64 hd, .bool fo, .bool sk, .str ins]), (1, .own qAC t), (3, .own qAI (op.take (op.length - 1)))] := by
 refine FnM.intro (N := 18) [0] [(0, [0, 4, 0, 0, 0, 4, 0, 0, 0, 4, 4, 4, 4, 4, 0, 0, 4]), (1000000, [2])] 3 Tryz.call281 Tryz.func281 rfl rfl (by kernel_rfl) (fun hpre => ?_)
 have h := takeM1 op hpre.1
 repeat' ((conv => whnf);first|(with_reducible first|rfl|exact qAH|exact qAG)|exact True.intro|intro _|refine WA ?_ ?_|refine WF ?_|refine W1 rfl ?_ ?_|refine W2 rfl ?_ ?_|refine W3 rfl ?_ ?_|refine W4 ?_ ?_|refine W5 rfl ?_ ?_|refine W6 ?_ ?_|refine WN ?_|refine X1 (W1 rfl ?_ ?_)|refine X1 (W2 rfl ?_ ?_)|refine X2 (W7 rfl ?_ ?_)|refine X3 (W7 rfl ?_ ?_)|refine X4 (W7 rfl ?_ ?_)|refine X5 (W7 rfl ?_ ?_))
 all_goals (try (conv => whnf))
 all_goals (try first|exact obA|refine Ob.mk ?_)
 all_goals (try (first | rfl | (simp only [cast_eq, List.nil_append] at *; rw [h]; done) | omega))
 all_goals trace_state
end Go.Vc

namespace Go.Vc
open Go.Proofs
set_option maxRecDepth 10000
set_option maxHeartbeats 4000000
def qN1 (l : List qAF) : Bool := l.all fun n => decide (n.2.2.1.length ≤ 60)
theorem qJL {l : List qAF} (h : qN1 l = true) : qW1 l := fun i => by
 cases hi : isT l i with
 | false => rw [qNF hi]; exact Nat.zero_le _
 | true =>
  rw [qSM hi]
  have h2 := qDY.1 hi
  unfold qN1 at h
  rw [List.all_eq_true] at h
  have hm : nd l i ∈ l := by
   have e : nd l i = l[i.toNat] := by unfold nd; rw [List.getD_eq_getElem?_getD, List.getElem?_eq_getElem (by omega)]; rfl
   rw [e]; exact List.getElem_mem _
  simpa using h _ hm
instance s56m (t : List qAF) (l : List Int) (nm : List UInt8) : FnM BB 304 [.agg [.rd qAC t], .rd qAI l, .str nm] [] (nm.length ≤ 100000 ∧ l.length ≤ 100000) (.own 0) [(0, .own qAI (l.take (popR (fun x => isE t x nm) l l.length)))] := by
 refine FnM.intro (N := 29) [0, 1, 2, 3, 6, 7, 10, 25] [] 0 Tryz.call304 Tryz.func304 rfl rfl (by kernel_rfl) (fun hpre => ?_)
 repeat' ((conv => whnf);first|(with_reducible first|rfl|exact qAH|exact qAG)|exact True.intro|intro _|refine WA ?_ ?_|refine WF ?_|refine W1 rfl ?_ ?_|refine W2 rfl ?_ ?_|refine W3 rfl ?_ ?_|refine W4 ?_ ?_|refine W5 rfl ?_ ?_|refine W6 ?_ ?_|refine WN ?_|refine X1 (W1 rfl ?_ ?_)|refine X1 (W2 rfl ?_ ?_)|refine X2 (W7 rfl ?_ ?_)|refine X3 (W7 rfl ?_ ?_)|refine X4 (W7 rfl ?_ ?_)|refine X5 (W7 rfl ?_ ?_))
 all_goals (try (conv => whnf))
 all_goals (try first|exact obA|refine Ob.mk ?_)
 refine LoopStop.mk (α := Nat) (fun n => [(1, .rd qAI (l.take n))]) (fun _ => []) 20 (fun n => n ≤ l.length ∧ popR (fun x => isE t x nm) l l.length = popR (fun x => isE t x nm) l n) (fun n => n) l.length (by simp) ?_ (fun n hC => ?_)
 ·repeat' ((conv => whnf);first|(with_reducible first|rfl|exact qAH|exact qAG)|exact True.intro|intro _|refine WA ?_ ?_|refine WF ?_|refine W1 rfl ?_ ?_|refine W2 rfl ?_ ?_|refine W3 rfl ?_ ?_|refine W4 ?_ ?_|refine W5 rfl ?_ ?_|refine W6 ?_ ?_|refine WN ?_|refine X1 (W1 rfl ?_ ?_)|refine X1 (W2 rfl ?_ ?_)|refine X2 (W7 rfl ?_ ?_)|refine X3 (W7 rfl ?_ ?_)|refine X4 (W7 rfl ?_ ?_)|refine X5 (W7 rfl ?_ ?_))
  all_goals (try (conv => whnf))
  all_goals (try first|exact obA|refine Ob.mk ?_)
  all_goals (first | rfl | (rw [List.take_of_length_le (Nat.le_refl _)]; done))
 ·obtain ⟨hn, hC⟩ := hC
  have e0 := qSN hn
  have e1 : ((n : Int) - 1).toNat = n - 1 := by omega
  have e2 : 1 < n → (l.take n).getD (n - 1) qAI.dflt = l.getD (n - 1) 0 := fun h => qNX (by omega)
  repeat' ((conv => whnf);first|(with_reducible first|rfl|exact qAH|exact qAG)|exact True.intro|intro _|refine WA ?_ ?_|refine WF ?_|refine W1 rfl ?_ ?_|refine W2 rfl ?_ ?_|refine W3 rfl ?_ ?_|refine W4 ?_ ?_|refine W5 rfl ?_ ?_|refine W6 ?_ ?_|refine WN ?_|refine X1 (W1 rfl ?_ ?_)|refine X1 (W2 rfl ?_ ?_)|refine X2 (W7 rfl ?_ ?_)|refine X3 (W7 rfl ?_ ?_)|refine X4 (W7 rfl ?_ ?_)|refine X5 (W7 rfl ?_ ?_))
  all_goals (try (conv => whnf))
  all_goals (try rw [e0] at *)
  all_goals (try rw [e1] at *)
  all_goals (try rw [qPK] at *)
  all_goals (try first|exact obA|refine Ob.mk ?_)
  ·rename_i h
   have h1 : 1 < n := by have := of_decide_eq_true ‹decide ((n : Int) > 1) = true›; omega
   rw [e2 h1] at h
   rw [hC.trans (qZE h1 h)]; rfl
  ·rename_i h
   have h1 : 1 < n := by have := of_decide_eq_true ‹decide ((n : Int) > 1) = true›; omega
   rw [e2 h1] at h
   refine Rnd.mk ⟨n - 1, ⟨by omega, hC.trans (qcJ h1 h)⟩, by omega, ?_, ?_, ?_⟩
   all_goals exact vcA
  ·have h1 : ¬ 1 < n := by have := of_decide_eq_false ‹decide ((n : Int) > 1) = false›; omega
   rw [hC.trans (qYM h1)]; rfl
instance s58m (t : List qAF) (l : List Int) (nm : List UInt8) : FnM BB 340 [.agg [.rd qAC t], .rd qAI l, .str nm] [] (qW1 t ∧ nm.length ≤ 100000 ∧ l.length ≤ 100000) (.own 0) [(0, .own qAI (l.take (cutR (qPS t nm) l l.length)))] := by
 refine FnM.intro (N := 44) [0, 1, 2, 3, 6, 7, 10, 35] [(2, [0, 0, 0, 0, 0, 0, 0, 6, 6, 6])] 0 Tryz.call340 Tryz.func340 rfl rfl (by kernel_rfl) (fun hpre => ?_)
 repeat' ((conv => whnf);first|(with_reducible first|rfl|exact qAH|exact qAG)|exact True.intro|intro _|refine WA ?_ ?_|refine WF ?_|refine W1 rfl ?_ ?_|refine W2 rfl ?_ ?_|refine W3 rfl ?_ ?_|refine W4 ?_ ?_|refine W5 rfl ?_ ?_|refine W6 ?_ ?_|refine WN ?_|refine X1 (W1 rfl ?_ ?_)|refine X1 (W2 rfl ?_ ?_)|refine X2 (W7 rfl ?_ ?_)|refine X3 (W7 rfl ?_ ?_)|refine X4 (W7 rfl ?_ ?_)|refine X5 (W7 rfl ?_ ?_))
 all_goals (try (conv => whnf))
 all_goals (try first|exact obA|refine Ob.mk ?_)
 refine LoopStop.mk (α := Nat) (fun n => [(1, .rd qAI (l.take n))]) (fun _ => []) 20 (fun n => n ≤ l.length ∧ cutR (qPS t nm) l l.length = cutR (qPS t nm) l n) (fun n => n) l.length (by simp) ?_ (fun n hC => ?_)
 ·repeat' ((conv => whnf);first|(with_reducible first|rfl|exact qAH|exact qAG)|exact True.intro|intro _|refine WA ?_ ?_|refine WF ?_|refine W1 rfl ?_ ?_|refine W2 rfl ?_ ?_|refine W3 rfl ?_ ?_|refine W4 ?_ ?_|refine W5 rfl ?_ ?_|refine W6 ?_ ?_|refine WN ?_|refine X1 (W1 rfl ?_ ?_)|refine X1 (W2 rfl ?_ ?_)|refine X2 (W7 rfl ?_ ?_)|refine X3 (W7 rfl ?_ ?_)|refine X4 (W7 rfl ?_ ?_)|refine X5 (W7 rfl ?_ ?_))
  all_goals (try (conv => whnf))
  all_goals (try first|exact obA|refine Ob.mk ?_)
  all_goals (first | rfl | (rw [List.take_of_length_le (Nat.le_refl _)]; done))
 ·obtain ⟨hn, hC⟩ := hC
  have e0 := qSN hn
  have e1 : ((n : Int) - 1).toNat = n - 1 := by omega
  have e2 : 1 < n → (l.take n).getD (n - 1) qAI.dflt = l.getD (n - 1) 0 := fun h => qNX (by omega)
  have e3 := hpre.1 ((l.take n).getD (n - 1) qAI.dflt)
  repeat' ((conv => whnf);first|(with_reducible first|rfl|exact qAH|exact qAG)|exact True.intro|intro _|refine WA ?_ ?_|refine WF ?_|refine W1 rfl ?_ ?_|refine W2 rfl ?_ ?_|refine W3 rfl ?_ ?_|refine W4 ?_ ?_|refine W5 rfl ?_ ?_|refine W6 ?_ ?_|refine WN ?_|refine X1 (W1 rfl ?_ ?_)|refine X1 (W2 rfl ?_ ?_)|refine X2 (W7 rfl ?_ ?_)|refine X3 (W7 rfl ?_ ?_)|refine X4 (W7 rfl ?_ ?_)|refine X5 (W7 rfl ?_ ?_))
  all_goals (try (conv => whnf))
  all_goals (try rw [e0] at *)
  all_goals (try rw [e1] at *)
  all_goals (try rw [qPK] at *)
  all_goals (try first|exact obA|refine Ob.mk ?_)
  ·rename_i h1 h
   have h1 : 1 < n := by have := of_decide_eq_true h1; omega
   have h : (!qPS t nm ((l.take n).getD (n - 1) qAI.dflt)) = true := by rw [qPO]; exact h
   rw [e2 h1] at h
   rw [hC.trans (qWU h1 (by simpa using h))]; rfl
  ·rename_i h1 h hz
   have h1 : 1 < n := by have := of_decide_eq_true h1; omega
   have h : (!qPS t nm ((l.take n).getD (n - 1) qAI.dflt)) = false := by rw [qPO]; exact h
   rw [e2 h1] at h
   refine Rnd.mk ⟨n - 1, ⟨by omega, hC.trans (qaR h1 (by simpa using h))⟩, by omega, ?_, ?_, ?_⟩
   all_goals exact vcA
  ·rename_i h1
   have h1 : ¬ 1 < n := by have := of_decide_eq_false h1; omega
   rw [hC.trans (qYJ h1)]; rfl
instance (priority := 3000) qAPop (t : List qAF) (op : List Int) (nm : List UInt8) (md bk lx fm hd : Int) (fo sk : Bool) (ins : List UInt8) :
  FnM BB 239 [.loc 0 0, .str nm] [(0, .box [.own 1, .own 2, .nils, .int .i64 md, .int .i64 bk, .int .i64 lx, .int .i64 fm, .int .i64 hd, .bool fo, .bool sk, .str ins]), (1, .own qAC t), (2, .own qAI (op))] (qN1 t = true ∧ nm.length ≤ 100000 ∧ op.length ≤ 100000)
   (.tup []) [(0, .box [.own 1, .own 2, .nils, .int .i64 md, .int .i64 bk, .int .i64 lx, .int .i64 fm, .int .i64 hd, .bool fo, .bool sk, .str ins]), (1, .own qAC t), (2, .own qAI (op.take (popR (fun x => isE t x nm) op op.length)))] := by
 refine FnM.intro (N := 17) [0, 1] [(0, [0, 0, 0, 0, 1, 0, 0, 0, 1, 0, 3, 0, 0, 3])] 3 Tryz.call239 Tryz.func239 rfl rfl (by kernel_rfl) (fun hpre => ?_)
 obtain ⟨h1, h2, h3⟩ := hpre
 have h1 := qJL h1
 repeat' ((conv => whnf);first|(with_reducible first|rfl|exact qAH|exact qAG)|exact True.intro|intro _|refine WA ?_ ?_|refine WF ?_|refine W1 rfl ?_ ?_|refine W2 rfl ?_ ?_|refine W3 rfl ?_ ?_|refine W4 ?_ ?_|refine W5 rfl ?_ ?_|refine W6 ?_ ?_|refine WN ?_|refine X1 (W1 rfl ?_ ?_)|refine X1 (W2 rfl ?_ ?_)|refine X2 (W7 rfl ?_ ?_)|refine X3 (W7 rfl ?_ ?_)|refine X4 (W7 rfl ?_ ?_)|refine X5 (W7 rfl ?_ ?_))
 all_goals (try (conv => whnf))
 all_goals (try first|exact obA|refine Ob.mk ?_)
 all_goals (first | exact ⟨h1, h2, h3⟩ | exact ⟨h2, h3⟩ | rfl | trace_state)
instance (priority := 3000) qAImplied (t : List qAF) (op : List Int) (nm : List UInt8) (md bk lx fm hd : Int) (fo sk : Bool) (ins : List UInt8) :
  FnM BB 282 [.loc 0 0, .str nm] [(0, .box [.own 1, .own 2, .nils, .int .i64 md, .int .i64 bk, .int .i64 lx, .int .i64 fm, .int .i64 hd, .bool fo, .bool sk, .str ins]), (1, .own qAC t), (2, .own qAI (op))] (qN1 t = true ∧ nm.length ≤ 100000 ∧ op.length ≤ 100000)
   (.tup []) [(0, .box [.own 1, .own 2, .nils, .int .i64 md, .int .i64 bk, .int .i64 lx, .int .i64 fm, .int .i64 hd, .bool fo, .bool sk, .str ins]), (1, .own qAC t), (2, .own qAI (op.take (cutR (qPS t nm) op op.length)))] := by
 refine FnM.intro (N := 17) [0, 1] [(0, [0, 0, 0, 0, 1, 0, 0, 0, 1, 0, 3, 0, 0, 3])] 3 Tryz.call282 Tryz.func282 rfl rfl (by kernel_rfl) (fun hpre => ?_)
 obtain ⟨h1, h2, h3⟩ := hpre
 have h1 := qJL h1
 repeat' ((conv => whnf);first|(with_reducible first|rfl|exact qAH|exact qAG)|exact True.intro|intro _|refine WA ?_ ?_|refine WF ?_|refine W1 rfl ?_ ?_|refine W2 rfl ?_ ?_|refine W3 rfl ?_ ?_|refine W4 ?_ ?_|refine W5 rfl ?_ ?_|refine W6 ?_ ?_|refine WN ?_|refine X1 (W1 rfl ?_ ?_)|refine X1 (W2 rfl ?_ ?_)|refine X2 (W7 rfl ?_ ?_)|refine X3 (W7 rfl ?_ ?_)|refine X4 (W7 rfl ?_ ?_)|refine X5 (W7 rfl ?_ ?_))
 all_goals (try (conv => whnf))
 all_goals (try first|exact obA|refine Ob.mk ?_)
 all_goals (first | exact ⟨h1, h2, h3⟩ | exact ⟨h2, h3⟩ | rfl | trace_state)
end Go.Vc

namespace Go.Vc
open Go.Proofs
set_option maxRecDepth 100000
set_option maxHeartbeats 40000000
noncomputable abbrev BA : Base := { BB with al := true }
instance (priority := 100) fnA {f : FuncId} {args : List SV} {pre : Prop} {res : SV} [h : Fn BB f args pre res] : Fn BA f args pre res := ⟨h.call, h.ok⟩
instance (priority := 100) fnmA {f : FuncId} {args : List SV} {Φ : Phi} {pre : Prop} {res : SV} {Φ' : Phi} [h : FnM BB f args Φ pre res Φ'] : FnM BA f args Φ pre res Φ' := ⟨h.call, h.ok⟩
@[simp] theorem bytesA (t : TypeId) : qAA BA.P t = qAA BB.P t := rfl
noncomputable section
open Tryz
@[reducible] def iM {f : FuncId} {fn : Func} {c : Code} (N : Nat) (L : List Nat) (pl : List (Nat × List Nat)) (call : ∀ (vs : Array Value) (w : World), (callFunc f vs).run BA.P w = .ok (.enter f vs) w) (hf : BA.P.funcs[f]? = some fn) (hb : fn.body = some c) (hN : fn.ntmps = N) (hok : codeOk N pl c = true := by kernel_rfl) : Inl BA f := Inl.make (N := N) L pl call hf hb hN hok
instance : Inl BA 17 := iM 49 [0, 1, 2, 3, 4, 14, 37, 42, 48] [(1, [1, 1, 1, 1, 1, 1, 1, 3, 3, 3])] call17 func17 rfl rfl
instance : Inl BA 18 := iM 72 [0, 1, 2, 4, 5, 6, 7, 27, 32, 41, 46, 56, 61, 71] [] call18 func18 rfl rfl
instance : Inl BA 19 := iM 65 [0, 1, 2, 3, 4, 5, 6, 7, 8, 9, 10, 11, 34, 49] [(5, [0, 1, 0, 1, 3])] call19 func19 rfl rfl
instance : Inl BA 21 := iM 32 [0, 1, 2, 3, 4, 5, 12, 17, 31] [(6, [0, 1, 0, 1, 1, 0, 1, 0, 1, 1, 3, 3])] call21 func21 rfl rfl
instance : Inl BA 26 := iM 60 [0, 1, 2, 4, 5, 6, 7, 8, 18, 36, 51] [(6, [0, 0, 0, 0, 0, 0, 0, 0, 6, 6])] call26 func26 rfl rfl
instance : Inl BA 27 := iM 30 [0, 1, 2, 3, 6, 7, 17] [] call27 func27 rfl rfl
instance : Inl BA 28 := iM 8 [0, 1, 2, 4] [] call28 func28 rfl rfl
instance : Inl BA 33 := iM 19 [0, 1, 2, 3, 4, 9] [] call33 func33 rfl rfl
instance : Inl BA 35 := iM 5 [0, 1, 2] [] call35 func35 rfl rfl
instance : Inl BA 40 := iM 62 [0, 1, 3, 4, 5, 6, 7, 8, 9, 14, 34] [(10, [0, 0, 0, 1, 0, 0, 1, 1, 3, 3, 3, 3])] call40 func40 rfl rfl
instance : Inl BA 42 := iM 61 [0, 1, 2, 4, 5, 6, 7, 8, 9, 25, 28, 35, 41, 54] [] call42 func42 rfl rfl
instance : Inl BA 44 := iM 24 [0, 1, 4, 18] [] call44 func44 rfl rfl
instance : Inl BA 47 := iM 48 [0, 1, 2, 4, 13, 31, 41, 47] [] call47 func47 rfl rfl
instance : Inl BA 50 := iM 35 [0, 1, 4, 5, 6, 12, 16, 32] [] call50 func50 rfl rfl
instance : Inl BA 52 := iM 67 [0, 1, 2, 3, 4, 8, 9, 28, 30, 35, 65] [] call52 func52 rfl rfl
instance : Inl BA 53 := iM 26 [0, 1, 4, 5, 10, 14, 25] [(6, [0, 0, 1, 1, 0, 0, 1, 1, 3])] call53 func53 rfl rfl
instance : Inl BA 55 := iM 90 [0, 1, 2, 3, 4, 5, 6, 7, 8, 9, 15, 30, 51] [(6, [0, 1, 0, 0, 1, 1, 1, 1, 1, 3]), (10, [1, 0, 1, 0, 1, 1, 1, 1, 0, 1, 0, 1, 1, 1, 3, 3]), (14, [0, 0, 0, 1, 1, 0, 1, 0, 1, 1, 1, 0, 0, 0, 1, 1, 1, 0, 0, 1, 1, 0, 1, 0, 1, 1, 1, 0, 0, 1, 1, 1, 3, 3, 3, 3])] call55 func55 rfl rfl
instance : Inl BA 59 := iM 28 [0, 1, 4, 5, 7] [(5, [0, 0, 0, 1, 0, 0, 0, 0, 1, 1, 1, 1, 1, 1, 3, 3])] call59 func59 rfl rfl
instance : Inl BA 70 := iM 95 [0, 1, 2, 4, 5, 6, 7, 18, 56, 80] [(8, [0, 0, 0, 1, 1, 1, 1, 1, 1, 1, 1, 1, 1, 1, 1, 1, 3, 3, 3, 3, 3])] call70 func70 rfl rfl
instance : Inl BA 71 := iM 16 [0, 2, 3, 7, 13] [] call71 func71 rfl rfl
instance : Inl BA 73 := iM 77 [0, 1, 2, 4, 5, 6, 21, 46, 51, 76] [] call73 func73 rfl rfl
instance : Inl BA 74 := iM 4 [0] [] call74 func74 rfl rfl
instance : Inl BA 75 := iM 21 [0, 1, 2, 5, 6, 7] [] call75 func75 rfl rfl
instance : Inl BA 76 := iM 53 [0, 1, 2, 3, 4, 5, 12, 13, 14, 15, 16, 27, 34] [(7, [0, 1, 0, 0, 1, 1, 0, 0, 1, 1, 1, 1, 3, 0, 3])] call76 func76 rfl rfl
instance : Inl BA 77 := iM 13 [0, 1, 2, 7] [] call77 func77 rfl rfl
instance : Inl BA 78 := iM 68 [0, 1, 2, 6, 7, 8, 9, 13, 34, 44] [(10, [0, 0, 0, 1, 0, 1, 1, 1, 0, 1, 0, 1, 1, 1, 0, 1, 0, 1, 1, 1, 3])] call78 func78 rfl rfl
instance : Inl BA 79 := iM 64 [0, 1, 2, 3, 4, 7, 10, 11, 20, 47] [(7, [0, 0, 0, 0, 1, 0, 1, 1, 1, 1, 0, 0, 3])] call79 func79 rfl rfl
instance : Inl BA 82 := iM 71 [0, 1, 2, 3, 4, 5, 47, 52, 65] [(6, [0, 1, 0, 1, 1, 0, 1, 0, 1, 1, 3])] call82 func82 rfl rfl
instance : Inl BA 85 := iM 15 [0, 1, 2, 4, 5] [] call85 func85 rfl rfl
instance : Inl BA 87 := iM 65 [0, 1, 2, 3, 4, 8, 9, 10, 11, 21, 60] [(5, [0, 0, 0, 0, 0, 0, 0, 0, 6, 6]), (6, [0, 1, 1, 1, 1, 1, 1, 1, 1, 1, 1, 1, 1, 1, 1, 1, 1, 1, 1, 1, 1, 1, 1, 1, 1, 1, 1, 3, 3])] call87 func87 rfl rfl
instance : Inl BA 92 := iM 68 [0, 1, 2, 4, 5, 6, 7, 8, 9, 10, 26, 35, 44, 52, 63] [(14, [0, 1, 0, 0, 1, 1, 3, 3, 3])] call92 func92 rfl rfl
instance : Inl BA 93 := iM 19 [0, 1, 2, 4] [] call93 func93 rfl rfl
instance : Inl BA 98 := iM 22 [0, 2, 3, 4, 8, 12] [] call98 func98 rfl rfl
instance : Inl BA 100 := iM 58 [0, 1, 2, 4, 5, 6, 7, 12, 16, 24, 42] [(9, [0, 1, 1, 1, 1, 1, 1, 1, 1, 1, 3, 3, 3])] call100 func100 rfl rfl
instance : Inl BA 101 := iM 19 [0, 1, 2, 4] [] call101 func101 rfl rfl
instance : Inl BA 105 := iM 13 [0, 2, 3, 10] [] call105 func105 rfl rfl
instance : Inl BA 109 := iM 8 [0, 1, 2, 4] [] call109 func109 rfl rfl
instance : Inl BA 110 := iM 15 [0, 1, 2, 4, 5, 10] [] call110 func110 rfl rfl
instance : Inl BA 114 := iM 34 [0, 2, 3, 4, 10] [] call114 func114 rfl rfl
instance : Inl BA 115 := iM 46 [0, 1, 4, 5, 6, 7, 35, 42, 44, 45] [] call115 func115 rfl rfl
instance : Inl BA 123 := iM 29 [0, 1, 2, 4, 5, 6, 7, 14] [(6, [0, 0, 1, 0, 0, 1, 1, 3, 3, 3, 3, 3])] call123 func123 rfl rfl
instance : Inl BA 124 := iM 82 [0, 1, 3, 4, 5, 6, 7, 18, 23, 54, 60] [] call124 func124 rfl rfl
instance : Inl BA 125 := iM 50 [0, 1, 2, 3, 4, 9, 31, 34, 49] [(4, [0, 1, 0, 1, 0, 1, 1, 1, 1, 1, 1, 1, 1, 1, 3, 3, 3, 3, 3, 3]), (9, [0, 1, 0, 1, 1, 1, 0, 1, 0, 1, 1, 1, 3])] call125 func125 rfl rfl
instance : Inl BA 126 := iM 34 [0, 1, 4, 5, 26] [] call126 func126 rfl rfl
instance : Inl BA 128 := iM 19 [0, 1, 2, 4] [] call128 func128 rfl rfl
instance : Inl BA 129 := iM 13 [0, 2, 5] [] call129 func129 rfl rfl
instance : Inl BA 130 := iM 8 [0, 2] [] call130 func130 rfl rfl
instance : Inl BA 132 := iM 26 [0, 1, 4] [] call132 func132 rfl rfl
instance : Inl BA 133 := iM 28 [0, 1, 3, 4] [(3, [0, 0, 0, 0, 1, 1, 1, 3, 0, 0, 3]), (5000003, [3])] call133 func133 rfl rfl
instance : Inl BA 134 := iM 69 [0, 1, 2, 3, 8, 34] [(3, [0, 0, 0, 1, 0, 0, 0, 0, 1, 1, 1, 0, 1, 3, 3, 3])] call134 func134 rfl rfl
instance : Inl BA 152 := iM 63 [0, 2, 3, 4, 5, 16, 42, 50, 58] [(4, [0, 0, 0, 0, 0, 0, 0, 0, 0, 0, 0, 0, 0, 0, 6, 6])] call152 func152 rfl rfl
instance : Inl BA 154 := iM 43 [0, 1, 4, 5, 10] [(3, [0, 0, 0, 0, 1, 0, 0, 0, 1, 1, 3, 3, 3, 3]), (4, [0, 0, 0, 0, 7, 0, 0, 0, 0, 4, 4, 4, 4, 4, 4, 4, 4, 4, 4, 4]), (3000004, [649,714,779,844,909,974,1039,1104,1169,1234])] call154 func154 rfl rfl
instance : Inl BA 155 := iM 57 [0, 1, 4, 15, 20, 35, 50] [] call155 func155 rfl rfl
instance : Inl BA 159 := iM 19 [0, 1, 4, 6, 10] [] call159 func159 rfl rfl
instance : Inl BA 160 := iM 19 [0, 1, 2] [] call160 func160 rfl rfl
instance : Inl BA 161 := iM 55 [0, 2, 3, 4, 5, 6, 7, 8, 24, 31, 36, 42, 50] [(14, [1, 0, 0, 1, 1, 3])] call161 func161 rfl rfl
instance : Inl BA 162 := iM 89 [0, 1, 3, 4, 5, 10, 24, 30, 48, 62, 79] [] call162 func162 rfl rfl
instance : Inl BA 163 := iM 62 [0, 1, 4, 5, 6, 7, 9, 11, 14, 22, 26, 61] [] call163 func163 rfl rfl
instance : Inl BA 164 := iM 16 [0, 2, 3, 7, 13] [] call164 func164 rfl rfl
instance : Inl BA 165 := iM 15 [0, 2, 3, 7, 14] [] call165 func165 rfl rfl
instance : Inl BA 167 := iM 64 [0, 2, 3, 4, 5, 6, 10, 26, 34, 50] [] call167 func167 rfl rfl
instance : Inl BA 169 := iM 77 [0, 1, 4, 5, 6, 7, 14, 33, 38, 69] [] call169 func169 rfl rfl
instance : Inl BA 182 := iM 71 [0, 1, 2, 3, 8, 9, 10, 11, 17, 25, 40, 42, 52, 58, 67, 69, 70] [] call182 func182 rfl rfl
instance : Inl BA 184 := iM 93 [0, 1, 2, 3, 8, 9, 10, 11, 12, 14, 16, 18, 27, 39, 49, 57, 71] [] call184 func184 rfl rfl
instance : Inl BA 185 := iM 38 [0, 2, 3, 16, 28] [] call185 func185 rfl rfl
instance : Inl BA 186 := iM 77 [0, 1, 3, 4, 5, 23, 45, 63] [] call186 func186 rfl rfl
instance : Inl BA 187 := iM 132 [0, 1, 4, 5, 6, 11, 22, 40, 44, 50, 73, 94, 115] [(11, [0, 0, 0, 0, 1, 0, 0, 0, 1, 1, 1, 1, 1, 3]), (13, [0, 1, 0, 0, 0, 1, 0, 0, 0, 1, 1, 1, 1, 3, 0, 0, 3]), (20, [0, 1, 0, 0, 0, 1, 0, 0, 0, 1, 1, 1, 1, 3, 0, 0, 3])] call187 func187 rfl rfl
instance : Inl BA 188 := iM 92 [0, 1, 4, 9, 22, 33, 41, 46, 72, 77, 85] [] call188 func188 rfl rfl
instance : Inl BA 189 := iM 55 [0, 1, 4, 9, 17, 25, 33, 41] [] call189 func189 rfl rfl
instance : Inl BA 190 := iM 109 [0, 1, 4, 16, 42, 56, 65, 76, 87, 95] [] call190 func190 rfl rfl
instance : Inl BA 191 := iM 70 [0, 1, 4, 9, 17, 25, 33, 41, 49] [] call191 func191 rfl rfl
instance : Inl BA 192 := iM 16 [0, 1, 2] [] call192 func192 rfl rfl
instance : Inl BA 193 := iM 48 [0, 1, 2, 3, 4, 17] [] call193 func193 rfl rfl
instance : Inl BA 194 := iM 33 [0, 1, 2, 6, 7, 12, 20, 32] [(6, [0, 0, 0, 1, 1, 1, 0, 0, 1, 1, 1, 3])] call194 func194 rfl rfl
instance : Inl BA 197 := iM 15 [0, 2, 3, 7, 14] [] call197 func197 rfl rfl
instance : Inl BA 198 := iM 27 [0, 2, 3, 8, 21, 26] [(4, [0, 0, 1, 1, 1, 0, 0, 1, 1, 1, 3])] call198 func198 rfl rfl
instance : Inl BA 199 := iM 38 [0, 1, 4, 5, 10, 18, 37] [(6, [0, 0, 1, 1, 1, 0, 0, 1, 1, 1, 1, 1, 1, 1, 3, 3, 3, 3, 3])] call199 func199 rfl rfl
instance : Inl BA 200 := iM 33 [0, 2, 3, 4, 10, 24] [] call200 func200 rfl rfl
instance : Inl BA 201 := iM 70 [0, 2, 3, 4, 5, 6, 7, 8, 13, 19, 25, 31, 33, 35, 37, 39, 41, 44, 66] [] call201 func201 rfl rfl
instance : Inl BA 202 := iM 20 [0, 2, 16] [] call202 func202 rfl rfl
instance : Inl BA 211 := iM 23 [0, 1, 4, 5, 8, 22] [(4, [0, 0, 0, 1, 0, 0, 0, 1, 0, 1, 1, 3])] call211 func211 rfl rfl
instance : Inl BA 212 := iM 72 [0, 1, 2, 6, 7, 8, 9, 10, 15, 25, 42, 57] [] call212 func212 rfl rfl
instance : Inl BA 213 := iM 27 [0, 1, 4, 5, 6, 7, 8, 9, 17] [] call213 func213 rfl rfl
instance : Inl BA 214 := iM 39 [0, 1, 4, 5, 6, 7, 8, 12, 22] [] call214 func214 rfl rfl
instance : Inl BA 215 := iM 73 [0, 1, 4, 5, 6, 22, 24, 47] [(6, [0, 0, 0, 0, 0, 0, 0, 0, 0, 3, 3, 3])] call215 func215 rfl rfl
instance : Inl BA 216 := iM 51 [0, 1, 2, 6, 18] [(4, [0, 0, 0, 0, 0, 0, 0, 0, 0, 3, 3, 3])] call216 func216 rfl rfl
instance : Inl BA 217 := iM 51 [0, 1, 2, 4, 6, 8, 11, 22] [] call217 func217 rfl rfl
instance : Inl BA 218 := iM 64 [0, 1, 4, 5, 6, 14, 35, 63] [(4, [0, 0, 0, 0, 1, 0, 0, 0, 1, 0, 1, 1, 1, 1, 1, 3]), (8, [0, 0, 0, 0, 1, 0, 0, 0, 1, 0, 0, 1, 1, 3, 3, 3, 3])] call218 func218 rfl rfl
instance : Inl BA 219 := iM 50 [0, 1, 2, 4, 6, 7, 8, 9] [(2, [0, 0, 0, 0, 0, 1, 0, 1, 3, 3, 3])] call219 func219 rfl rfl
instance : Inl BA 220 := iM 43 [0, 1, 2, 4, 5, 6, 7, 9, 17, 26] [] call220 func220 rfl rfl
instance : Inl BA 221 := iM 100 [0, 2, 3, 4, 32, 55, 64] [(2, [0, 0, 0, 1, 1, 1, 1, 1, 1, 1, 1, 1, 1, 1, 1, 1, 1, 1, 3, 3, 3]), (3, [0, 0, 0, 1, 1, 1, 1, 1, 1, 1, 1, 1, 1, 1, 1, 1, 1, 1, 1, 1, 3, 3, 3]), (7, [0, 0, 0, 0, 0, 1, 0, 0, 0, 1, 0, 1, 1, 3, 3, 3, 3, 3]), (8, [0, 0, 0, 0, 1, 0, 0, 0, 1, 0, 1, 1, 0, 3, 0, 0, 3])] call221 func221 rfl rfl
instance : Inl BA 222 := iM 124 [0, 1, 4, 5, 14, 20, 23, 38, 43, 47, 50, 57, 67, 73, 78, 81, 86, 89, 99] [(32, [0, 1, 0, 0, 0, 1, 0, 0, 0, 1, 1, 1, 1, 3, 0, 0, 3])] call222 func222 rfl rfl
instance : Inl BA 223 := iM 73 [0, 1, 4, 17, 55] [(2, [0, 0, 0, 0, 1, 1, 1, 0, 0, 0, 1, 3]), (3, [0, 0, 0, 1, 1, 1, 1, 1, 1, 1, 1, 1, 1, 1, 1, 1, 1, 1, 1, 1, 1, 1, 1, 1, 3, 3]), (4, [0, 0, 0, 0, 1, 1, 1, 0, 0, 0, 1, 3])] call223 func223 rfl rfl
instance : Inl BA 224 := iM 26 [0, 1, 4, 9, 14, 22] [] call224 func224 rfl rfl
instance : Inl BA 225 := iM 78 [0, 1, 4, 5, 6, 7, 25, 34, 41, 50, 54, 63, 68, 74] [] call225 func225 rfl rfl
instance : Inl BA 226 := iM 31 [0, 1, 4, 10, 15, 27] [] call226 func226 rfl rfl
instance : Inl BA 227 := iM 34 [0, 1, 4, 10, 12, 24] [] call227 func227 rfl rfl
instance : Inl BA 228 := iM 84 [0, 1, 4, 5, 6, 11, 19, 48, 76] [(6, [0, 0, 0, 0, 1, 0, 0, 0, 1, 0, 1, 1, 1, 1, 1, 3]), (7, [0, 0, 0, 1, 0, 0, 0, 1, 0, 1, 1, 0, 3]), (10, [0, 1, 0, 1, 1, 1, 1, 1, 1, 1, 1, 1, 1, 1, 1, 1, 1, 3, 3, 3])] call228 func228 rfl rfl
instance : Inl BA 230 := iM 77 [0, 1, 4, 5, 23, 54] [(0, [0, 0, 0, 1, 0, 0, 0, 1, 3, 3]), (10, [0, 0, 0, 0, 1, 0, 0, 0, 1, 0, 3, 0, 0, 3])] call230 func230 rfl rfl
instance : Inl BA 231 := iM 122 [0, 1, 4, 5, 15, 29, 37, 39, 53, 57, 65, 69, 82, 115] [] call231 func231 rfl rfl
instance : Inl BA 232 := iM 90 [0, 1, 4, 20, 29, 34, 40, 45, 49, 55, 57, 62, 71, 76] [] call232 func232 rfl rfl
instance : Inl BA 233 := iM 40 [0, 1, 4, 11, 14, 36] [] call233 func233 rfl rfl
instance : Inl BA 234 := iM 68 [0, 1, 4, 5, 6, 11, 24, 31, 40, 45, 59] [] call234 func234 rfl rfl
instance : Inl BA 235 := iM 55 [0, 1, 4, 5, 7, 18, 28, 44, 51] [] call235 func235 rfl rfl
instance : Inl BA 236 := iM 45 [0, 1, 4, 6, 17, 25, 29, 41] [] call236 func236 rfl rfl
instance : Inl BA 237 := iM 47 [0, 1, 4, 5, 7, 13, 26, 35, 39, 43] [] call237 func237 rfl rfl
instance : Inl BA 238 := iM 18 [0, 1, 2, 6] [(1, [0, 0, 0, 1, 0, 0, 0, 1, 0, 0, 3, 3])] call238 func238 rfl rfl
instance : Inl BA 240 := iM 63 [0, 1, 4, 9, 24, 31, 43, 50] [] call240 func240 rfl rfl
instance : Inl BA 241 := iM 54 [0, 1, 4, 9, 35, 44, 51] [(2, [0, 1, 1, 1, 1, 1, 1, 1, 1, 1, 1, 1, 1, 1, 1, 1, 1, 1, 1, 3, 3])] call241 func241 rfl rfl
instance : Inl BA 242 := iM 53 [0, 1, 4, 6, 7, 13, 18, 32] [(9, [0, 0, 0, 0, 0, 0, 3, 3, 3, 3]), (10, [0, 0, 0, 0, 0, 0, 0, 3, 3, 0, 3])] call242 func242 rfl rfl
instance : Inl BA 243 := iM 57 [0, 1, 4, 6, 23, 28, 49] [] call243 func243 rfl rfl
instance : Inl BA 244 := iM 55 [0, 1, 4, 6, 7, 8, 18, 25, 41] [] call244 func244 rfl rfl
instance : Inl BA 245 := iM 64 [0, 1, 4, 5, 6, 7, 8, 35, 42, 46] [] call245 func245 rfl rfl
instance : Inl BA 246 := iM 109 [0, 1, 4, 5, 6, 7, 8, 35, 42, 56, 101] [(8, [0, 0, 0, 1, 1, 1, 1, 1, 1, 1, 1, 3, 3]), (9, [0, 1, 0, 0, 0, 1, 1, 0, 0, 0, 1, 1, 3, 0, 0, 3]), (11, [0, 0, 0, 0, 1, 0, 0, 0, 1, 3, 0, 0, 3])] call246 func246 rfl rfl
instance : Inl BA 247 := iM 45 [0, 1, 4, 9, 27] [] call247 func247 rfl rfl
instance : Inl BA 248 := iM 117 [0, 1, 4, 5, 6, 7, 19, 36, 54, 66, 74, 81, 86, 105, 110] [(2, [0, 0, 0, 0, 1, 0, 0, 0, 1, 1, 1, 3])] call248 func248 rfl rfl
instance : Inl BA 249 := iM 10 [0, 1, 4] [] call249 func249 rfl rfl
instance : Inl BA 259 := iM 37 [0, 1, 2, 6, 7, 9, 11, 20, 26, 33] [] call259 func259 rfl rfl
instance : Inl BA 260 := iM 151 [0, 2, 3, 4, 5, 6, 7, 8, 9, 10, 19, 36, 61, 76, 103, 117, 122, 130, 141] [] call260 func260 rfl rfl
instance : Inl BA 261 := iM 92 [0, 1, 4, 5, 6, 7, 9, 28, 38, 42, 57, 64, 71, 85] [] call261 func261 rfl rfl
instance : Inl BA 262 := iM 77 [0, 1, 4, 5, 6, 7, 8, 15, 23, 33, 45, 73] [] call262 func262 rfl rfl
instance : Inl BA 263 := iM 126 [0, 1, 4, 5, 6, 7, 8, 20, 31, 69, 114] [(2, [0, 0, 0, 1, 0, 0, 0, 1, 3, 3]), (4, [0, 0, 0, 1, 1, 1, 0, 0, 0, 0, 1, 0, 0, 0, 1, 1, 1, 1, 1, 1, 1, 1, 3]), (5, [0, 0, 0, 0, 1, 0, 0, 0, 1, 0, 1, 1, 3, 3, 3, 3]), (7, [0, 0, 0, 0, 1, 0, 0, 0, 1, 0, 1, 1, 3, 0, 3]), (9, [0, 0, 0, 0, 0, 3, 0, 3, 3, 3, 3, 0, 3]), (12, [0, 0, 0, 0, 0, 3, 0, 3, 3, 3, 3, 0, 3])] call263 func263 rfl rfl
instance : Inl BA 265 := iM 24 [0, 1, 4, 5, 9, 18] [] call265 func265 rfl rfl
instance : Inl BA 267 := iM 8 [0, 1, 2] [] call267 func267 rfl rfl
instance : Inl BA 268 := iM 29 [0, 1, 2, 6, 7, 8, 15, 23] [] call268 func268 rfl rfl
instance : Inl BA 269 := iM 20 [0, 1, 2, 3, 8, 13] [] call269 func269 rfl rfl
instance : Inl BA 270 := iM 28 [0, 2, 16] [] call270 func270 rfl rfl
instance : Inl BA 271 := iM 6 [0] [] call271 func271 rfl rfl
instance : Inl BA 272 := iM 1 [0] [] call272 func272 rfl rfl
instance : Inl BA 273 := iM 206 [0, 1, 4, 5, 6, 7, 8, 9, 10, 11, 12, 13, 14, 15, 16, 33, 38, 52, 60, 73, 78, 166] [(8, [0, 0, 0, 1, 0, 0, 0, 1, 0, 3, 3]), (22, [0, 0, 0, 1, 0, 1, 1, 0, 0, 0, 1, 0, 0, 1, 1, 1, 1, 3]), (34, [0, 0, 0, 0, 1, 0, 0, 0, 1, 0, 1, 1, 0, 3, 0, 0, 3]), (5000019, [2000])] call273 func273 rfl rfl
instance : Inl BA 274 := iM 72 [0, 1, 4, 5, 6, 14, 30, 41, 71] [(9, [0, 0, 0, 0, 1, 0, 1, 1, 1, 0, 0, 0, 0, 1, 0, 1, 1, 1, 3])] call274 func274 rfl rfl
instance : Inl BA 275 := iM 11 [0, 2] [] call275 func275 rfl rfl
instance : Inl BA 276 := iM 35 [0, 1, 2, 6, 10] [(3, [0, 0, 0, 0, 1, 0, 0, 0, 0, 0, 1, 0, 1, 1, 1, 0, 0, 1, 1, 1, 3, 3, 3])] call276 func276 rfl rfl
instance : Inl BA 277 := iM 11 [0, 1] [] call277 func277 rfl rfl
instance : Inl BA 278 := iM 27 [0, 1] [] call278 func278 rfl rfl
instance : Inl BA 279 := iM 6 [0, 3] [] call279 func279 rfl rfl
instance : Inl BA 280 := iM 16 [0, 1, 4] [(1, [0, 0, 0, 1, 0, 0, 0, 1, 1, 0, 3, 3])] call280 func280 rfl rfl
instance : Inl BA 283 := iM 64 [0, 1, 2, 3, 6, 7, 14, 59] [(4, [1, 0, 0, 1, 1, 1, 1, 1, 1, 1, 1, 1, 1, 1, 1, 1, 1, 1, 1, 1, 1, 1, 1, 1, 1, 1, 1, 1, 1, 1, 1, 1, 1, 1, 1, 1, 1, 1, 1, 1, 1, 3, 3])] call283 func283 rfl rfl
instance : Inl BA 284 := iM 27 [0, 1, 4, 5, 6, 10, 18] [] call284 func284 rfl rfl
instance : Inl BA 285 := iM 31 [0, 1, 4, 5, 6, 10, 22] [] call285 func285 rfl rfl
instance : Inl BA 286 := iM 55 [0, 1, 2, 3, 6, 7, 8, 9, 10, 11, 18, 27, 34, 43] [(5, [1, 0, 0, 1, 1, 0, 3])] call286 func286 rfl rfl
instance : Inl BA 287 := iM 12 [0, 1, 4] [] call287 func287 rfl rfl
instance : Inl BA 288 := iM 28 [0, 1, 4, 9] [] call288 func288 rfl rfl
instance : Inl BA 289 := iM 18 [0, 1, 4] [] call289 func289 rfl rfl
instance : Inl BA 290 := iM 1 [0] [] call290 func290 rfl rfl
instance : Inl BA 291 := iM 50 [0, 1, 4, 11, 23, 33, 41] [] call291 func291 rfl rfl
instance : Inl BA 292 := iM 10 [0, 2, 5] [] call292 func292 rfl rfl
instance : Inl BA 293 := iM 18 [0, 1, 4] [] call293 func293 rfl rfl
instance : Inl BA 294 := iM 22 [0, 2, 3, 4] [] call294 func294 rfl rfl
instance : Inl BA 295 := iM 18 [0] [(0, [0, 1, 0, 0, 0, 1, 0, 0, 0, 1, 1, 1, 1, 3, 0, 0, 3])] call295 func295 rfl rfl
instance : Inl BA 296 := iM 16 [0, 1, 4, 5] [] call296 func296 rfl rfl
instance : Inl BA 297 := iM 23 [0, 2, 3, 4, 14] [(4, [0, 0, 0, 0, 0, 0, 0, 0])] call297 func297 rfl rfl
instance : Inl BA 299 := iM 13 [0, 1, 2, 4] [] call299 func299 rfl rfl
instance : Inl BA 300 := iM 22 [0, 1, 2, 3, 8, 12] [] call300 func300 rfl rfl
instance : Inl BA 301 := iM 13 [0] [] call301 func301 rfl rfl
instance : Inl BA 302 := iM 20 [0, 1] [] call302 func302 rfl rfl
instance : Inl BA 305 := iM 31 [0, 1, 14] [(1, [0, 1, 0, 0, 0, 1, 0, 0, 0, 1, 1, 1, 1, 3, 0, 0, 3])] call305 func305 rfl rfl
instance : Inl BA 306 := iM 10 [0, 2, 5] [] call306 func306 rfl rfl
instance : Inl BA 307 := iM 26 [0, 2, 3, 4, 5, 10] [] call307 func307 rfl rfl
instance : Inl BA 308 := iM 19 [0, 1, 4] [] call308 func308 rfl rfl
instance : Inl BA 309 := iM 9 [0, 1, 4] [] call309 func309 rfl rfl
instance : Inl BA 310 := iM 44 [0, 1, 4, 5, 10, 28] [] call310 func310 rfl rfl
instance : Inl BA 311 := iM 24 [0, 7] [(1, [0, 1, 0, 0, 0, 1, 0, 0, 0, 1, 1, 1, 1, 3, 0, 0, 3])] call311 func311 rfl rfl
instance : Inl BA 312 := iM 1 [0] [] call312 func312 rfl rfl
instance : Inl BA 315 := iM 53 [0, 1, 4, 5, 6, 7, 11, 21, 28, 36, 42, 48] [] call315 func315 rfl rfl
instance : Inl BA 316 := iM 51 [0, 1, 4, 5, 34] [] call316 func316 rfl rfl
instance : Inl BA 317 := iM 17 [0, 2] [] call317 func317 rfl rfl
instance : Inl BA 318 := iM 18 [0, 1, 4, 14] [] call318 func318 rfl rfl
instance : Inl BA 319 := iM 82 [0, 1, 4, 5, 6, 7, 8, 9, 10, 11, 42, 63] [] call319 func319 rfl rfl
instance : Inl BA 321 := iM 18 [0, 1, 4] [] call321 func321 rfl rfl
instance : Inl BA 322 := iM 51 [0, 2, 3, 4, 5, 6, 7, 10, 13, 28, 44] [] call322 func322 rfl rfl
instance : Inl BA 323 := iM 46 [0, 2, 3, 4, 5, 6, 7, 20, 33] [] call323 func323 rfl rfl
instance : Inl BA 324 := iM 30 [0, 1, 2, 6, 7, 15, 26] [] call324 func324 rfl rfl
instance : Inl BA 325 := iM 21 [0, 1, 4, 5, 6, 7] [] call325 func325 rfl rfl
instance : Inl BA 326 := iM 64 [0, 2, 3, 4, 5, 6, 7, 8, 21, 26, 37, 48, 58] [] call326 func326 rfl rfl
instance : Inl BA 327 := iM 44 [0, 2, 3, 4, 5, 6, 7, 15, 38] [] call327 func327 rfl rfl
instance : Inl BA 328 := iM 13 [0, 2] [] call328 func328 rfl rfl
instance : Inl BA 331 := iM 45 [0, 1, 4, 5, 6, 14, 25, 44] [(6, [0, 0, 0, 0, 1, 0, 0, 0, 1, 0, 1, 1, 1, 1, 1, 3])] call331 func331 rfl rfl
instance : Inl BA 332 := iM 37 [0, 1, 4, 5, 6, 15, 36] [(4, [0, 0, 0, 0, 1, 0, 0, 0, 1, 0, 1, 1, 1, 1, 1, 3])] call332 func332 rfl rfl
instance : Inl BA 333 := iM 38 [0, 1, 4, 5, 6, 15, 36] [(4, [0, 0, 0, 0, 1, 0, 0, 0, 1, 0, 1, 1, 1, 1, 1, 3])] call333 func333 rfl rfl
instance : Inl BA 334 := iM 119 [0, 1, 2, 3, 8, 9, 10, 11, 12, 13, 14, 15, 36, 50, 62, 71, 106] [] call334 func334 rfl rfl
instance : Inl BA 335 := iM 25 [0, 1, 4, 5] [(2, [0, 0, 0, 0, 1, 0, 1, 0, 1, 3, 3, 3])] call335 func335 rfl rfl
instance : Inl BA 336 := iM 89 [0, 1, 2, 6, 7, 29, 41, 51] [(5, [0, 0, 1, 0, 0, 1, 1, 3]), (6, [0, 0, 0, 1, 0, 0, 1, 1, 0, 3, 3, 3]), (7, [0, 0, 0, 1, 0, 1, 0, 0, 0, 1, 0, 1, 1, 1, 1, 0, 1, 3, 3, 3])] call336 func336 rfl rfl
instance : Inl BA 337 := iM 22 [0, 1, 2] [(0, [0, 0, 0, 0, 0, 0, 0, 0, 3, 0, 3, 3, 3, 3, 0, 3])] call337 func337 rfl rfl
instance : Inl BA 338 := iM 24 [0, 1, 2, 6] [(2, [1, 0, 0, 0, 1, 0, 1, 3, 0, 0, 0, 3, 3])] call338 func338 rfl rfl
instance : Inl BA 339 := iM 18 [0, 2, 3, 8, 15] [] call339 func339 rfl rfl
instance : Inl BA 341 := iM 14 [0, 1, 2, 4] [] call341 func341 rfl rfl
instance : Inl BA 342 := iM 48 [0, 1, 2, 3, 6, 7, 8, 18] [(3, [0, 1, 0, 1, 1, 0, 1, 0, 1, 1, 1, 1, 1, 3])] call342 func342 rfl rfl
instance : Inl BA 344 := iM 18 [0, 1, 4] [] call344 func344 rfl rfl
instance : Inl BA 345 := iM 31 [0, 2] [] call345 func345 rfl rfl
instance : Inl BA 346 := iM 72 [0, 1, 4, 5, 6, 7, 8, 12, 23, 29, 38, 64] [(7, [0, 0, 0, 0, 0, 0, 0])] call346 func346 rfl rfl
instance : Inl BA 347 := iM 52 [0, 2, 13, 29, 45] [] call347 func347 rfl rfl
instance : Inl BA 348 := iM 32 [0, 2, 8, 17, 27] [] call348 func348 rfl rfl
instance : Inl BA 349 := iM 29 [0, 2, 3, 4, 5, 11, 19, 26] [] call349 func349 rfl rfl
instance : Inl BA 350 := iM 4 [0, 1] [] call350 func350 rfl rfl
instance : Inl BA 352 := iM 20 [0, 1, 4] [] call352 func352 rfl rfl
instance : Inl BA 353 := iM 34 [0, 1, 4, 5, 6, 7, 11, 17, 33] [(8, [0, 0, 1, 1, 1, 1, 1, 1, 1, 1, 3, 3, 3])] call353 func353 rfl rfl
end
instance (priority := 3000) xkHas (t : List qAF) (l : List Int) (nm : List UInt8) (sc : Int) : Fn BA 303 [.agg [.rd qAC t], .rd qAI l, .str nm, .int .i64 sc] (qN1 t = true ∧ nm.length ≤ 100000) (.bool (hasS t l nm sc)) := ⟨(s51 t l nm sc).call, fun h => (s51 t l nm sc).ok ⟨qJL h.1, h.2⟩⟩
end Go.Vc

namespace Go.Vc
open Go.Proofs
set_option maxRecDepth 100000
set_option maxHeartbeats 40000000
set_option pp.deepTerms true
set_option pp.maxSteps 2000000
instance (priority := 5000) ZO_0 : FnM BA 154 [.loc 0 0, .loc 3 0] [(0, .box [.own 1, .own 2, .nils, .int .i64 5, .int .i64 0, .int .i64 0, .int .i64 0, .int .i64 0, .bool false, .bool false, .str [100, 105, 118]]), (1, .own qAC [((0 : Int), (0 : Int), ([] : List UInt8), ([] : List qAD), ([] : List UInt8), (-1 : Int), ([1] : List Int)), ((1 : Int), (0 : Int), ([104, 116, 109, 108] : List UInt8), ([] : List qAD), ([] : List UInt8), (0 : Int), ([] : List Int))]), (2, .own qAI [1]), (3, .box [.str (60 :: 102 :: 111 :: 114 :: 109 :: 32 :: 105 :: 100 :: 61 :: 102 :: 62 :: 60 :: 105 :: 110 :: 112 :: 117 :: 116 :: 62 :: 60 :: 112 :: 62 :: 60 :: 47 :: 112 :: 62 :: 60 :: 47 :: 102 :: 111 :: 114 :: 109 :: 62 :: 60 :: 105 :: 110 :: 112 :: 117 :: 116 :: 32 :: 102 :: 111 :: 114 :: 109 :: 61 :: 102 :: 62 :: 60 :: 105 :: 110 :: 112 :: 117 :: 116 :: 32 :: 102 :: 111 :: 114 :: 109 :: 61 :: 103 :: 62 :: 60 :: 105 :: 110 :: 112 :: 117 :: 116 :: 62 :: [])])] True (.agg [.int .i64 1, .str [102, 111, 114, 109], .rd qAT [([105, 100], [102])], .bool false, .str []]) [(0, .box [.own 1, .own 2, .nils, .int .i64 5, .int .i64 0, .int .i64 0, .int .i64 0, .int .i64 0, .bool false, .bool false, .str [100, 105, 118]]), (1, .own qAC [((0 : Int), (0 : Int), ([] : List UInt8), ([] : List qAD), ([] : List UInt8), (-1 : Int), ([1] : List Int)), ((1 : Int), (0 : Int), ([104, 116, 109, 108] : List UInt8), ([] : List qAD), ([] : List UInt8), (0 : Int), ([] : List Int))]), (2, .own qAI [1]), (3, .box [.str (60 :: 105 :: 110 :: 112 :: 117 :: 116 :: 62 :: 60 :: 112 :: 62 :: 60 :: 47 :: 112 :: 62 :: 60 :: 47 :: 102 :: 111 :: 114 :: 109 :: 62 :: 60 :: 105 :: 110 :: 112 :: 117 :: 116 :: 32 :: 102 :: 111 :: 114 :: 109 :: 61 :: 102 :: 62 :: 60 :: 105 :: 110 :: 112 :: 117 :: 116 :: 32 :: 102 :: 111 :: 114 :: 109 :: 61 :: 103 :: 62 :: 60 :: 105 :: 110 :: 112 :: 117 :: 116 :: 62 :: [])])] := by
 refine FnM.intro (N := 43) [0, 1, 4, 5, 10] [(3, [0, 0, 0, 0, 1, 0, 0, 0, 1, 1, 3, 3, 3, 3]), (4, [0, 0, 0, 0, 7, 0, 0, 0, 0, 4, 4, 4, 4, 4, 4, 4, 4, 4, 4, 4]), (3000004, [649,714,779,844,909,974,1039,1104,1169,1234])] 4 Tryz.call154 Tryz.func154 rfl rfl (by kernel_rfl) (fun hpre => ?_)
 repeat' ((conv => whnf);first|(with_reducible first|rfl|exact qAH|exact qAG)|exact True.intro|(intro hq;first|(exfalso;revert hq;decide +kernel)|clear hq|skip)|refine WA ?_ ?_|refine WF ?_|refine W1 rfl ?_ ?_|refine W2 rfl ?_ ?_|refine W3 rfl ?_ ?_|refine W4 ?_ ?_|refine W5 rfl ?_ ?_|refine W6 ?_ ?_|refine WN ?_|refine X1 (W1 rfl ?_ ?_)|refine X1 (W2 rfl ?_ ?_)|refine X2 (W7 rfl ?_ ?_)|refine X3 (W7 rfl ?_ ?_)|refine X4 (W7 rfl ?_ ?_)|refine X5 (W7 rfl ?_ ?_)|refine X7 (by conv => lhs;cbv) rfl ?_|refine X8 (by conv => lhs;cbv) ?_|refine LoopStop.ug 500 ?_|refine ZStop.dir ?_|(refine Ob.mk ?_;decide +kernel))
 all_goals (first | rfl | decide +kernel)
end Go.Vc

namespace Go.Vc
open Go.Proofs
set_option maxRecDepth 100000
set_option maxHeartbeats 40000000
set_option pp.deepTerms true
set_option pp.maxSteps 2000000
instance (priority := 5000) ZO_1 : FnM BA 155 [.loc 0 0, .loc 3 0] [(0, .box [.own 1, .own 2, .nils, .int .i64 5, .int .i64 0, .int .i64 0, .int .i64 0, .int .i64 0, .bool false, .bool false, .str [100, 105, 118]]), (1, .own qAC [((0 : Int), (0 : Int), ([] : List UInt8), ([] : List qAD), ([] : List UInt8), (-1 : Int), ([1] : List Int)), ((1 : Int), (0 : Int), ([104, 116, 109, 108] : List UInt8), ([] : List qAD), ([] : List UInt8), (0 : Int), ([] : List Int))]), (2, .own qAI [1]), (3, .box [.int .i64 1, .str [102, 111, 114, 109], .rd qAT [([105, 100], [102])], .bool false, .str []])] True (.bool false) [(0, .box [.own 1, .own 4, .nils, .int .i64 5, .int .i64 0, .int .i64 0, .int .i64 2, .int .i64 0, .bool false, .bool false, .str [100, 105, 118]]), (1, .own qAC [((0 : Int), (0 : Int), ([] : List UInt8), ([] : List qAD), ([] : List UInt8), (-1 : Int), ([1] : List Int)), ((1 : Int), (0 : Int), ([104, 116, 109, 108] : List UInt8), ([] : List qAD), ([] : List UInt8), (0 : Int), ([2] : List Int)), ((1 : Int), (0 : Int), ([102, 111, 114, 109] : List UInt8), ([([105, 100], [102])] : List qAD), ([] : List UInt8), (1 : Int), ([] : List Int))]), (4, .own qAI [1, 2]), (3, .box [.int .i64 1, .str [102, 111, 114, 109], .rd qAT [([105, 100], [102])], .bool false, .str []])] := by
 refine FnM.intro (N := 57) [0, 1, 4, 15, 20, 35, 50] [] 4 Tryz.call155 Tryz.func155 rfl rfl (by kernel_rfl) (fun hpre => ?_)
 repeat' ((conv => whnf);first|(with_reducible first|rfl|exact qAH|exact qAG)|exact True.intro|(intro hq;first|(exfalso;revert hq;decide +kernel)|clear hq|skip)|refine WA ?_ ?_|refine WF ?_|refine W1 rfl ?_ ?_|refine W2 rfl ?_ ?_|refine W3 rfl ?_ ?_|refine W4 ?_ ?_|refine W5 rfl ?_ ?_|refine W6 ?_ ?_|refine WN ?_|refine X1 (W1 rfl ?_ ?_)|refine X1 (W2 rfl ?_ ?_)|refine X2 (W7 rfl ?_ ?_)|refine X3 (W7 rfl ?_ ?_)|refine X4 (W7 rfl ?_ ?_)|refine X5 (W7 rfl ?_ ?_)|refine X7 (by conv => lhs;cbv) rfl ?_|refine X8 (by conv => lhs;cbv) ?_|refine LoopStop.ug 500 ?_|refine ZStop.dir ?_|(refine Ob.mk ?_;decide +kernel))
 all_goals (first | rfl | decide +kernel)
end Go.Vc

namespace Go.Vc
open Go.Proofs
set_option maxRecDepth 100000
set_option maxHeartbeats 40000000
set_option pp.deepTerms true
set_option pp.maxSteps 2000000
instance (priority := 5000) ZO_2 : FnM BA 154 [.loc 0 0, .loc 3 0] [(0, .box [.own 1, .own 2, .nils, .int .i64 5, .int .i64 0, .int .i64 0, .int .i64 2, .int .i64 0, .bool false, .bool false, .str [100, 105, 118]]), (1, .own qAC [((0 : Int), (0 : Int), ([] : List UInt8), ([] : List qAD), ([] : List UInt8), (-1 : Int), ([1] : List Int)), ((1 : Int), (0 : Int), ([104, 116, 109, 108] : List UInt8), ([] : List qAD), ([] : List UInt8), (0 : Int), ([2] : List Int)), ((1 : Int), (0 : Int), ([102, 111, 114, 109] : List UInt8), ([([105, 100], [102])] : List qAD), ([] : List UInt8), (1 : Int), ([] : List Int))]), (2, .own qAI [1, 2]), (3, .box [.str (60 :: 105 :: 110 :: 112 :: 117 :: 116 :: 62 :: 60 :: 112 :: 62 :: 60 :: 47 :: 112 :: 62 :: 60 :: 47 :: 102 :: 111 :: 114 :: 109 :: 62 :: 60 :: 105 :: 110 :: 112 :: 117 :: 116 :: 32 :: 102 :: 111 :: 114 :: 109 :: 61 :: 102 :: 62 :: 60 :: 105 :: 110 :: 112 :: 117 :: 116 :: 32 :: 102 :: 111 :: 114 :: 109 :: 61 :: 103 :: 62 :: 60 :: 105 :: 110 :: 112 :: 117 :: 116 :: 62 :: [])])] True (.agg [.int .i64 1, .str [105, 110, 112, 117, 116], .nils, .bool false, .str []]) [(0, .box [.own 1, .own 2, .nils, .int .i64 5, .int .i64 0, .int .i64 0, .int .i64 2, .int .i64 0, .bool false, .bool false, .str [100, 105, 118]]), (1, .own qAC [((0 : Int), (0 : Int), ([] : List UInt8), ([] : List qAD), ([] : List UInt8), (-1 : Int), ([1] : List Int)), ((1 : Int), (0 : Int), ([104, 116, 109, 108] : List UInt8), ([] : List qAD), ([] : List UInt8), (0 : Int), ([2] : List Int)), ((1 : Int), (0 : Int), ([102, 111, 114, 109] : List UInt8), ([([105, 100], [102])] : List qAD), ([] : List UInt8), (1 : Int), ([] : List Int))]), (2, .own qAI [1, 2]), (3, .box [.str (60 :: 112 :: 62 :: 60 :: 47 :: 112 :: 62 :: 60 :: 47 :: 102 :: 111 :: 114 :: 109 :: 62 :: 60 :: 105 :: 110 :: 112 :: 117 :: 116 :: 32 :: 102 :: 111 :: 114 :: 109 :: 61 :: 102 :: 62 :: 60 :: 105 :: 110 :: 112 :: 117 :: 116 :: 32 :: 102 :: 111 :: 114 :: 109 :: 61 :: 103 :: 62 :: 60 :: 105 :: 110 :: 112 :: 117 :: 116 :: 62 :: [])])] := by
 refine FnM.intro (N := 43) [0, 1, 4, 5, 10] [(3, [0, 0, 0, 0, 1, 0, 0, 0, 1, 1, 3, 3, 3, 3]), (4, [0, 0, 0, 0, 7, 0, 0, 0, 0, 4, 4, 4, 4, 4, 4, 4, 4, 4, 4, 4]), (3000004, [649,714,779,844,909,974,1039,1104,1169,1234])] 4 Tryz.call154 Tryz.func154 rfl rfl (by kernel_rfl) (fun hpre => ?_)
 repeat' ((conv => whnf);first|(with_reducible first|rfl|exact qAH|exact qAG)|exact True.intro|(intro hq;first|(exfalso;revert hq;decide +kernel)|clear hq|skip)|refine WA ?_ ?_|refine WF ?_|refine W1 rfl ?_ ?_|refine W2 rfl ?_ ?_|refine W3 rfl ?_ ?_|refine W4 ?_ ?_|refine W5 rfl ?_ ?_|refine W6 ?_ ?_|refine WN ?_|refine X1 (W1 rfl ?_ ?_)|refine X1 (W2 rfl ?_ ?_)|refine X2 (W7 rfl ?_ ?_)|refine X3 (W7 rfl ?_ ?_)|refine X4 (W7 rfl ?_ ?_)|refine X5 (W7 rfl ?_ ?_)|refine X7 (by conv => lhs;cbv) rfl ?_|refine X8 (by conv => lhs;cbv) ?_|refine LoopStop.ug 500 ?_|refine ZStop.dir ?_|(refine Ob.mk ?_;decide +kernel))
 all_goals (first | rfl | decide +kernel)
end Go.Vc

namespace Go.Vc
open Go.Proofs
set_option maxRecDepth 100000
set_option maxHeartbeats 40000000
set_option pp.deepTerms true
set_option pp.maxSteps 2000000
instance (priority := 5000) ZO_3 : FnM BA 155 [.loc 0 0, .loc 3 0] [(0, .box [.own 1, .own 2, .nils, .int .i64 5, .int .i64 0, .int .i64 0, .int .i64 2, .int .i64 0, .bool false, .bool false, .str [100, 105, 118]]), (1, .own qAC [((0 : Int), (0 : Int), ([] : List UInt8), ([] : List qAD), ([] : List UInt8), (-1 : Int), ([1] : List Int)), ((1 : Int), (0 : Int), ([104, 116, 109, 108] : List UInt8), ([] : List qAD), ([] : List UInt8), (0 : Int), ([2] : List Int)), ((1 : Int), (0 : Int), ([102, 111, 114, 109] : List UInt8), ([([105, 100], [102])] : List qAD), ([] : List UInt8), (1 : Int), ([] : List Int))]), (2, .own qAI [1, 2]), (3, .box [.int .i64 1, .str [105, 110, 112, 117, 116], .nils, .bool false, .str []])] True (.bool false) [(0, .box [.own 1, .own 4, .nils, .int .i64 5, .int .i64 0, .int .i64 0, .int .i64 2, .int .i64 0, .bool false, .bool false, .str [100, 105, 118]]), (1, .own qAC [((0 : Int), (0 : Int), ([] : List UInt8), ([] : List qAD), ([] : List UInt8), (-1 : Int), ([1] : List Int)), ((1 : Int), (0 : Int), ([104, 116, 109, 108] : List UInt8), ([] : List qAD), ([] : List UInt8), (0 : Int), ([2] : List Int)), ((1 : Int), (0 : Int), ([102, 111, 114, 109] : List UInt8), ([([105, 100], [102])] : List qAD), ([] : List UInt8), (1 : Int), ([3] : List Int)), ((1 : Int), (0 : Int), ([105, 110, 112, 117, 116] : List UInt8), ([] : List qAD), ([] : List UInt8), (2 : Int), ([] : List Int))]), (4, .own qAI [1, 2]), (3, .box [.int .i64 1, .str [105, 110, 112, 117, 116], .nils, .bool false, .str []])] := by
 refine FnM.intro (N := 57) [0, 1, 4, 15, 20, 35, 50] [] 4 Tryz.call155 Tryz.func155 rfl rfl (by kernel_rfl) (fun hpre => ?_)
 repeat' ((conv => whnf);first|(with_reducible first|rfl|exact qAH|exact qAG)|exact True.intro|(intro hq;first|(exfalso;revert hq;decide +kernel)|clear hq|skip)|refine WA ?_ ?_|refine WF ?_|refine W1 rfl ?_ ?_|refine W2 rfl ?_ ?_|refine W3 rfl ?_ ?_|refine W4 ?_ ?_|refine W5 rfl ?_ ?_|refine W6 ?_ ?_|refine WN ?_|refine X1 (W1 rfl ?_ ?_)|refine X1 (W2 rfl ?_ ?_)|refine X2 (W7 rfl ?_ ?_)|refine X3 (W7 rfl ?_ ?_)|refine X4 (W7 rfl ?_ ?_)|refine X5 (W7 rfl ?_ ?_)|refine X7 (by conv => lhs;cbv) rfl ?_|refine X8 (by conv => lhs;cbv) ?_|refine LoopStop.ug 500 ?_|refine ZStop.dir ?_|(refine Ob.mk ?_;decide +kernel))
 all_goals (first | rfl | decide +kernel)
end Go.Vc

namespace Go.Vc
open Go.Proofs
set_option maxRecDepth 100000
set_option maxHeartbeats 40000000
set_option pp.deepTerms true
set_option pp.maxSteps 2000000
instance (priority := 5000) ZO_4 : FnM BA 154 [.loc 0 0, .loc 3 0] [(0, .box [.own 1, .own 2, .nils, .int .i64 5, .int .i64 0, .int .i64 0, .int .i64 2, .int .i64 0, .bool false, .bool false, .str [100, 105, 118]]), (1, .own qAC [((0 : Int), (0 : Int), ([] : List UInt8), ([] : List qAD), ([] : List UInt8), (-1 : Int), ([1] : List Int)), ((1 : Int), (0 : Int), ([104, 116, 109, 108] : List UInt8), ([] : List qAD), ([] : List UInt8), (0 : Int), ([2] : List Int)), ((1 : Int), (0 : Int), ([102, 111, 114, 109] : List UInt8), ([([105, 100], [102])] : List qAD), ([] : List UInt8), (1 : Int), ([3] : List Int)), ((1 : Int), (0 : Int), ([105, 110, 112, 117, 116] : List UInt8), ([] : List qAD), ([] : List UInt8), (2 : Int), ([] : List Int))]), (2, .own qAI [1, 2]), (3, .box [.str (60 :: 112 :: 62 :: 60 :: 47 :: 112 :: 62 :: 60 :: 47 :: 102 :: 111 :: 114 :: 109 :: 62 :: 60 :: 105 :: 110 :: 112 :: 117 :: 116 :: 32 :: 102 :: 111 :: 114 :: 109 :: 61 :: 102 :: 62 :: 60 :: 105 :: 110 :: 112 :: 117 :: 116 :: 32 :: 102 :: 111 :: 114 :: 109 :: 61 :: 103 :: 62 :: 60 :: 105 :: 110 :: 112 :: 117 :: 116 :: 62 :: [])])] True (.agg [.int .i64 1, .str [112], .nils, .bool false, .str []]) [(0, .box [.own 1, .own 2, .nils, .int .i64 5, .int .i64 0, .int .i64 0, .int .i64 2, .int .i64 0, .bool false, .bool false, .str [100, 105, 118]]), (1, .own qAC [((0 : Int), (0 : Int), ([] : List UInt8), ([] : List qAD), ([] : List UInt8), (-1 : Int), ([1] : List Int)), ((1 : Int), (0 : Int), ([104, 116, 109, 108] : List UInt8), ([] : List qAD), ([] : List UInt8), (0 : Int), ([2] : List Int)), ((1 : Int), (0 : Int), ([102, 111, 114, 109] : List UInt8), ([([105, 100], [102])] : List qAD), ([] : List UInt8), (1 : Int), ([3] : List Int)), ((1 : Int), (0 : Int), ([105, 110, 112, 117, 116] : List UInt8), ([] : List qAD), ([] : List UInt8), (2 : Int), ([] : List Int))]), (2, .own qAI [1, 2]), (3, .box [.str (60 :: 47 :: 112 :: 62 :: 60 :: 47 :: 102 :: 111 :: 114 :: 109 :: 62 :: 60 :: 105 :: 110 :: 112 :: 117 :: 116 :: 32 :: 102 :: 111 :: 114 :: 109 :: 61 :: 102 :: 62 :: 60 :: 105 :: 110 :: 112 :: 117 :: 116 :: 32 :: 102 :: 111 :: 114 :: 109 :: 61 :: 103 :: 62 :: 60 :: 105 :: 110 :: 112 :: 117 :: 116 :: 62 :: [])])] := by
 refine FnM.intro (N := 43) [0, 1, 4, 5, 10] [(3, [0, 0, 0, 0, 1, 0, 0, 0, 1, 1, 3, 3, 3, 3]), (4, [0, 0, 0, 0, 7, 0, 0, 0, 0, 4, 4, 4, 4, 4, 4, 4, 4, 4, 4, 4]), (3000004, [649,714,779,844,909,974,1039,1104,1169,1234])] 4 Tryz.call154 Tryz.func154 rfl rfl (by kernel_rfl) (fun hpre => ?_)
 repeat' ((conv => whnf);first|(with_reducible first|rfl|exact qAH|exact qAG)|exact True.intro|(intro hq;first|(exfalso;revert hq;decide +kernel)|clear hq|skip)|refine WA ?_ ?_|refine WF ?_|refine W1 rfl ?_ ?_|refine W2 rfl ?_ ?_|refine W3 rfl ?_ ?_|refine W4 ?_ ?_|refine W5 rfl ?_ ?_|refine W6 ?_ ?_|refine WN ?_|refine X1 (W1 rfl ?_ ?_)|refine X1 (W2 rfl ?_ ?_)|refine X2 (W7 rfl ?_ ?_)|refine X3 (W7 rfl ?_ ?_)|refine X4 (W7 rfl ?_ ?_)|refine X5 (W7 rfl ?_ ?_)|refine X7 (by conv => lhs;cbv) rfl ?_|refine X8 (by conv => lhs;cbv) ?_|refine LoopStop.ug 500 ?_|refine ZStop.dir ?_|(refine Ob.mk ?_;decide +kernel))
 all_goals (first | rfl | decide +kernel)
end Go.Vc

namespace Go.Vc
open Go.Proofs
set_option maxRecDepth 100000
set_option maxHeartbeats 40000000
set_option pp.deepTerms true
set_option pp.maxSteps 2000000
instance (priority := 5000) ZO_5 : FnM BA 155 [.loc 0 0, .loc 3 0] [(0, .box [.own 1, .own 2, .nils, .int .i64 5, .int .i64 0, .int .i64 0, .int .i64 2, .int .i64 0, .bool false, .bool false, .str [100, 105, 118]]), (1, .own qAC [((0 : Int), (0 : Int), ([] : List UInt8), ([] : List qAD), ([] : List UInt8), (-1 : Int), ([1] : List Int)), ((1 : Int), (0 : Int), ([104, 116, 109, 108] : List UInt8), ([] : List qAD), ([] : List UInt8), (0 : Int), ([2] : List Int)), ((1 : Int), (0 : Int), ([102, 111, 114, 109] : List UInt8), ([([105, 100], [102])] : List qAD), ([] : List UInt8), (1 : Int), ([3] : List Int)), ((1 : Int), (0 : Int), ([105, 110, 112, 117, 116] : List UInt8), ([] : List qAD), ([] : List UInt8), (2 : Int), ([] : List Int))]), (2, .own qAI [1, 2]), (3, .box [.int .i64 1, .str [112], .nils, .bool false, .str []])] True (.bool false) [(0, .box [.own 1, .own 4, .nils, .int .i64 5, .int .i64 0, .int .i64 0, .int .i64 2, .int .i64 0, .bool false, .bool false, .str [100, 105, 118]]), (1, .own qAC [((0 : Int), (0 : Int), ([] : List UInt8), ([] : List qAD), ([] : List UInt8), (-1 : Int), ([1] : List Int)), ((1 : Int), (0 : Int), ([104, 116, 109, 108] : List UInt8), ([] : List qAD), ([] : List UInt8), (0 : Int), ([2] : List Int)), ((1 : Int), (0 : Int), ([102, 111, 114, 109] : List UInt8), ([([105, 100], [102])] : List qAD), ([] : List UInt8), (1 : Int), ([3, 4] : List Int)), ((1 : Int), (0 : Int), ([105, 110, 112, 117, 116] : List UInt8), ([] : List qAD), ([] : List UInt8), (2 : Int), ([] : List Int)), ((1 : Int), (0 : Int), ([112] : List UInt8), ([] : List qAD), ([] : List UInt8), (2 : Int), ([] : List Int))]), (4, .own qAI [1, 2, 4]), (3, .box [.int .i64 1, .str [112], .nils, .bool false, .str []])] := by
 refine FnM.intro (N := 57) [0, 1, 4, 15, 20, 35, 50] [] 4 Tryz.call155 Tryz.func155 rfl rfl (by kernel_rfl) (fun hpre => ?_)
 repeat' ((conv => whnf);first|(with_reducible first|rfl|exact qAH|exact qAG)|exact True.intro|(intro hq;first|(exfalso;revert hq;decide +kernel)|clear hq|skip)|refine WA ?_ ?_|refine WF ?_|refine W1 rfl ?_ ?_|refine W2 rfl ?_ ?_|refine W3 rfl ?_ ?_|refine W4 ?_ ?_|refine W5 rfl ?_ ?_|refine W6 ?_ ?_|refine WN ?_|refine X1 (W1 rfl ?_ ?_)|refine X1 (W2 rfl ?_ ?_)|refine X2 (W7 rfl ?_ ?_)|refine X3 (W7 rfl ?_ ?_)|refine X4 (W7 rfl ?_ ?_)|refine X5 (W7 rfl ?_ ?_)|refine X7 (by conv => lhs;cbv) rfl ?_|refine X8 (by conv => lhs;cbv) ?_|refine LoopStop.ug 500 ?_|refine ZStop.dir ?_|(refine Ob.mk ?_;decide +kernel))
 all_goals (first | rfl | decide +kernel)
end Go.Vc

namespace Go.Vc
open Go.Proofs
set_option maxRecDepth 100000
set_option maxHeartbeats 40000000
set_option pp.deepTerms true
set_option pp.maxSteps 2000000
instance (priority := 5000) ZO_6 : FnM BA 154 [.loc 0 0, .loc 3 0] [(0, .box [.own 1, .own 2, .nils, .int .i64 5, .int .i64 0, .int .i64 0, .int .i64 2, .int .i64 0, .bool false, .bool false, .str [100, 105, 118]]), (1, .own qAC [((0 : Int), (0 : Int), ([] : List UInt8), ([] : List qAD), ([] : List UInt8), (-1 : Int), ([1] : List Int)), ((1 : Int), (0 : Int), ([104, 116, 109, 108] : List UInt8), ([] : List qAD), ([] : List UInt8), (0 : Int), ([2] : List Int)), ((1 : Int), (0 : Int), ([102, 111, 114, 109] : List UInt8), ([([105, 100], [102])] : List qAD), ([] : List UInt8), (1 : Int), ([3, 4] : List Int)), ((1 : Int), (0 : Int), ([105, 110, 112, 117, 116] : List UInt8), ([] : List qAD), ([] : List UInt8), (2 : Int), ([] : List Int)), ((1 : Int), (0 : Int), ([112] : List UInt8), ([] : List qAD), ([] : List UInt8), (2 : Int), ([] : List Int))]), (2, .own qAI [1, 2, 4]), (3, .box [.str (60 :: 47 :: 112 :: 62 :: 60 :: 47 :: 102 :: 111 :: 114 :: 109 :: 62 :: 60 :: 105 :: 110 :: 112 :: 117 :: 116 :: 32 :: 102 :: 111 :: 114 :: 109 :: 61 :: 102 :: 62 :: 60 :: 105 :: 110 :: 112 :: 117 :: 116 :: 32 :: 102 :: 111 :: 114 :: 109 :: 61 :: 103 :: 62 :: 60 :: 105 :: 110 :: 112 :: 117 :: 116 :: 62 :: [])])] True (.agg [.int .i64 2, .str [112], .nils, .bool false, .str []]) [(0, .box [.own 1, .own 2, .nils, .int .i64 5, .int .i64 0, .int .i64 0, .int .i64 2, .int .i64 0, .bool false, .bool false, .str [100, 105, 118]]), (1, .own qAC [((0 : Int), (0 : Int), ([] : List UInt8), ([] : List qAD), ([] : List UInt8), (-1 : Int), ([1] : List Int)), ((1 : Int), (0 : Int), ([104, 116, 109, 108] : List UInt8), ([] : List qAD), ([] : List UInt8), (0 : Int), ([2] : List Int)), ((1 : Int), (0 : Int), ([102, 111, 114, 109] : List UInt8), ([([105, 100], [102])] : List qAD), ([] : List UInt8), (1 : Int), ([3, 4] : List Int)), ((1 : Int), (0 : Int), ([105, 110, 112, 117, 116] : List UInt8), ([] : List qAD), ([] : List UInt8), (2 : Int), ([] : List Int)), ((1 : Int), (0 : Int), ([112] : List UInt8), ([] : List qAD), ([] : List UInt8), (2 : Int), ([] : List Int))]), (2, .own qAI [1, 2, 4]), (3, .box [.str (60 :: 47 :: 102 :: 111 :: 114 :: 109 :: 62 :: 60 :: 105 :: 110 :: 112 :: 117 :: 116 :: 32 :: 102 :: 111 :: 114 :: 109 :: 61 :: 102 :: 62 :: 60 :: 105 :: 110 :: 112 :: 117 :: 116 :: 32 :: 102 :: 111 :: 114 :: 109 :: 61 :: 103 :: 62 :: 60 :: 105 :: 110 :: 112 :: 117 :: 116 :: 62 :: [])])] := by
 refine FnM.intro (N := 43) [0, 1, 4, 5, 10] [(3, [0, 0, 0, 0, 1, 0, 0, 0, 1, 1, 3, 3, 3, 3]), (4, [0, 0, 0, 0, 7, 0, 0, 0, 0, 4, 4, 4, 4, 4, 4, 4, 4, 4, 4, 4]), (3000004, [649,714,779,844,909,974,1039,1104,1169,1234])] 4 Tryz.call154 Tryz.func154 rfl rfl (by kernel_rfl) (fun hpre => ?_)
 repeat' ((conv => whnf);first|(with_reducible first|rfl|exact qAH|exact qAG)|exact True.intro|(intro hq;first|(exfalso;revert hq;decide +kernel)|clear hq|skip)|refine WA ?_ ?_|refine WF ?_|refine W1 rfl ?_ ?_|refine W2 rfl ?_ ?_|refine W3 rfl ?_ ?_|refine W4 ?_ ?_|refine W5 rfl ?_ ?_|refine W6 ?_ ?_|refine WN ?_|refine X1 (W1 rfl ?_ ?_)|refine X1 (W2 rfl ?_ ?_)|refine X2 (W7 rfl ?_ ?_)|refine X3 (W7 rfl ?_ ?_)|refine X4 (W7 rfl ?_ ?_)|refine X5 (W7 rfl ?_ ?_)|refine X7 (by conv => lhs;cbv) rfl ?_|refine X8 (by conv => lhs;cbv) ?_|refine LoopStop.ug 500 ?_|refine ZStop.dir ?_|(refine Ob.mk ?_;decide +kernel))
 all_goals (first | rfl | decide +kernel)
end Go.Vc

namespace Go.Vc
open Go.Proofs
set_option maxRecDepth 100000
set_option maxHeartbeats 40000000
set_option pp.deepTerms true
set_option pp.maxSteps 2000000
instance (priority := 5000) ZO_7 : FnM BA 155 [.loc 0 0, .loc 3 0] [(0, .box [.own 1, .own 2, .nils, .int .i64 5, .int .i64 0, .int .i64 0, .int .i64 2, .int .i64 0, .bool false, .bool false, .str [100, 105, 118]]), (1, .own qAC [((0 : Int), (0 : Int), ([] : List UInt8), ([] : List qAD), ([] : List UInt8), (-1 : Int), ([1] : List Int)), ((1 : Int), (0 : Int), ([104, 116, 109, 108] : List UInt8), ([] : List qAD), ([] : List UInt8), (0 : Int), ([2] : List Int)), ((1 : Int), (0 : Int), ([102, 111, 114, 109] : List UInt8), ([([105, 100], [102])] : List qAD), ([] : List UInt8), (1 : Int), ([3, 4] : List Int)), ((1 : Int), (0 : Int), ([105, 110, 112, 117, 116] : List UInt8), ([] : List qAD), ([] : List UInt8), (2 : Int), ([] : List Int)), ((1 : Int), (0 : Int), ([112] : List UInt8), ([] : List qAD), ([] : List UInt8), (2 : Int), ([] : List Int))]), (2, .own qAI [1, 2, 4]), (3, .box [.int .i64 2, .str [112], .nils, .bool false, .str []])] True (.bool false) [(0, .box [.own 1, .own 2, .nils, .int .i64 5, .int .i64 0, .int .i64 0, .int .i64 2, .int .i64 0, .bool false, .bool false, .str [100, 105, 118]]), (1, .own qAC [((0 : Int), (0 : Int), ([] : List UInt8), ([] : List qAD), ([] : List UInt8), (-1 : Int), ([1] : List Int)), ((1 : Int), (0 : Int), ([104, 116, 109, 108] : List UInt8), ([] : List qAD), ([] : List UInt8), (0 : Int), ([2] : List Int)), ((1 : Int), (0 : Int), ([102, 111, 114, 109] : List UInt8), ([([105, 100], [102])] : List qAD), ([] : List UInt8), (1 : Int), ([3, 4] : List Int)), ((1 : Int), (0 : Int), ([105, 110, 112, 117, 116] : List UInt8), ([] : List qAD), ([] : List UInt8), (2 : Int), ([] : List Int)), ((1 : Int), (0 : Int), ([112] : List UInt8), ([] : List qAD), ([] : List UInt8), (2 : Int), ([] : List Int))]), (2, .own qAI [1, 2]), (3, .box [.int .i64 2, .str [112], .nils, .bool false, .str []])] := by
 refine FnM.intro (N := 57) [0, 1, 4, 15, 20, 35, 50] [] 4 Tryz.call155 Tryz.func155 rfl rfl (by kernel_rfl) (fun hpre => ?_)
 repeat' ((conv => whnf);first|(with_reducible first|rfl|exact qAH|exact qAG)|exact True.intro|(intro hq;first|(exfalso;revert hq;decide +kernel)|clear hq|skip)|refine WA ?_ ?_|refine WF ?_|refine W1 rfl ?_ ?_|refine W2 rfl ?_ ?_|refine W3 rfl ?_ ?_|refine W4 ?_ ?_|refine W5 rfl ?_ ?_|refine W6 ?_ ?_|refine WN ?_|refine X1 (W1 rfl ?_ ?_)|refine X1 (W2 rfl ?_ ?_)|refine X2 (W7 rfl ?_ ?_)|refine X3 (W7 rfl ?_ ?_)|refine X4 (W7 rfl ?_ ?_)|refine X5 (W7 rfl ?_ ?_)|refine X7 (by conv => lhs;cbv) rfl ?_|refine X8 (by conv => lhs;cbv) ?_|refine LoopStop.ug 500 ?_|refine ZStop.dir ?_|(refine Ob.mk ?_;decide +kernel))
 all_goals (first | rfl | decide +kernel)
end Go.Vc

namespace Go.Vc
open Go.Proofs
set_option maxRecDepth 100000
set_option maxHeartbeats 40000000
set_option pp.deepTerms true
set_option pp.maxSteps 2000000
instance (priority := 5000) ZO_8 : FnM BA 154 [.loc 0 0, .loc 3 0] [(0, .box [.own 1, .own 2, .nils, .int .i64 5, .int .i64 0, .int .i64 0, .int .i64 2, .int .i64 0, .bool false, .bool false, .str [100, 105, 118]]), (1, .own qAC [((0 : Int), (0 : Int), ([] : List UInt8), ([] : List qAD), ([] : List UInt8), (-1 : Int), ([1] : List Int)), ((1 : Int), (0 : Int), ([104, 116, 109, 108] : List UInt8), ([] : List qAD), ([] : List UInt8), (0 : Int), ([2] : List Int)), ((1 : Int), (0 : Int), ([102, 111, 114, 109] : List UInt8), ([([105, 100], [102])] : List qAD), ([] : List UInt8), (1 : Int), ([3, 4] : List Int)), ((1 : Int), (0 : Int), ([105, 110, 112, 117, 116] : List UInt8), ([] : List qAD), ([] : List UInt8), (2 : Int), ([] : List Int)), ((1 : Int), (0 : Int), ([112] : List UInt8), ([] : List qAD), ([] : List UInt8), (2 : Int), ([] : List Int))]), (2, .own qAI [1, 2]), (3, .box [.str (60 :: 47 :: 102 :: 111 :: 114 :: 109 :: 62 :: 60 :: 105 :: 110 :: 112 :: 117 :: 116 :: 32 :: 102 :: 111 :: 114 :: 109 :: 61 :: 102 :: 62 :: 60 :: 105 :: 110 :: 112 :: 117 :: 116 :: 32 :: 102 :: 111 :: 114 :: 109 :: 61 :: 103 :: 62 :: 60 :: 105 :: 110 :: 112 :: 117 :: 116 :: 62 :: [])])] True (.agg [.int .i64 2, .str [102, 111, 114, 109], .nils, .bool false, .str []]) [(0, .box [.own 1, .own 2, .nils, .int .i64 5, .int .i64 0, .int .i64 0, .int .i64 2, .int .i64 0, .bool false, .bool false, .str [100, 105, 118]]), (1, .own qAC [((0 : Int), (0 : Int), ([] : List UInt8), ([] : List qAD), ([] : List UInt8), (-1 : Int), ([1] : List Int)), ((1 : Int), (0 : Int), ([104, 116, 109, 108] : List UInt8), ([] : List qAD), ([] : List UInt8), (0 : Int), ([2] : List Int)), ((1 : Int), (0 : Int), ([102, 111, 114, 109] : List UInt8), ([([105, 100], [102])] : List qAD), ([] : List UInt8), (1 : Int), ([3, 4] : List Int)), ((1 : Int), (0 : Int), ([105, 110, 112, 117, 116] : List UInt8), ([] : List qAD), ([] : List UInt8), (2 : Int), ([] : List Int)), ((1 : Int), (0 : Int), ([112] : List UInt8), ([] : List qAD), ([] : List UInt8), (2 : Int), ([] : List Int))]), (2, .own qAI [1, 2]), (3, .box [.str [60, 105, 110, 112, 117, 116, 32, 102, 111, 114, 109, 61, 102, 62, 60, 105, 110, 112, 117, 116, 32, 102, 111, 114, 109, 61, 103, 62, 60, 105, 110, 112, 117, 116, 62]])] := by
 refine FnM.intro (N := 43) [0, 1, 4, 5, 10] [(3, [0, 0, 0, 0, 1, 0, 0, 0, 1, 1, 3, 3, 3, 3]), (4, [0, 0, 0, 0, 7, 0, 0, 0, 0, 4, 4, 4, 4, 4, 4, 4, 4, 4, 4, 4]), (3000004, [649,714,779,844,909,974,1039,1104,1169,1234])] 4 Tryz.call154 Tryz.func154 rfl rfl (by kernel_rfl) (fun hpre => ?_)
 repeat' ((conv => whnf);first|(with_reducible first|rfl|exact qAH|exact qAG)|exact True.intro|(intro hq;first|(exfalso;revert hq;decide +kernel)|clear hq|skip)|refine WA ?_ ?_|refine WF ?_|refine W1 rfl ?_ ?_|refine W2 rfl ?_ ?_|refine W3 rfl ?_ ?_|refine W4 ?_ ?_|refine W5 rfl ?_ ?_|refine W6 ?_ ?_|refine WN ?_|refine X1 (W1 rfl ?_ ?_)|refine X1 (W2 rfl ?_ ?_)|refine X2 (W7 rfl ?_ ?_)|refine X3 (W7 rfl ?_ ?_)|refine X4 (W7 rfl ?_ ?_)|refine X5 (W7 rfl ?_ ?_)|refine X7 (by conv => lhs;cbv) rfl ?_|refine X8 (by conv => lhs;cbv) ?_|refine LoopStop.ug 500 ?_|refine ZStop.dir ?_|(refine Ob.mk ?_;decide +kernel))
 all_goals (first | rfl | decide +kernel)
end Go.Vc

namespace Go.Vc
open Go.Proofs
set_option maxRecDepth 100000
set_option maxHeartbeats 40000000
set_option pp.deepTerms true
set_option pp.maxSteps 2000000
instance (priority := 5000) ZO_9 : FnM BA 155 [.loc 0 0, .loc 3 0] [(0, .box [.own 1, .own 2, .nils, .int .i64 5, .int .i64 0, .int .i64 0, .int .i64 2, .int .i64 0, .bool false, .bool false, .str [100, 105, 118]]), (1, .own qAC [((0 : Int), (0 : Int), ([] : List UInt8), ([] : List qAD), ([] : List UInt8), (-1 : Int), ([1] : List Int)), ((1 : Int), (0 : Int), ([104, 116, 109, 108] : List UInt8), ([] : List qAD), ([] : List UInt8), (0 : Int), ([2] : List Int)), ((1 : Int), (0 : Int), ([102, 111, 114, 109] : List UInt8), ([([105, 100], [102])] : List qAD), ([] : List UInt8), (1 : Int), ([3, 4] : List Int)), ((1 : Int), (0 : Int), ([105, 110, 112, 117, 116] : List UInt8), ([] : List qAD), ([] : List UInt8), (2 : Int), ([] : List Int)), ((1 : Int), (0 : Int), ([112] : List UInt8), ([] : List qAD), ([] : List UInt8), (2 : Int), ([] : List Int))]), (2, .own qAI [1, 2]), (3, .box [.int .i64 2, .str [102, 111, 114, 109], .nils, .bool false, .str []])] True (.bool false) [(0, .box [.own 1, .own 4, .nils, .int .i64 5, .int .i64 0, .int .i64 0, .int .i64 0, .int .i64 0, .bool false, .bool false, .str [100, 105, 118]]), (1, .own qAC [((0 : Int), (0 : Int), ([] : List UInt8), ([] : List qAD), ([] : List UInt8), (-1 : Int), ([1] : List Int)), ((1 : Int), (0 : Int), ([104, 116, 109, 108] : List UInt8), ([] : List qAD), ([] : List UInt8), (0 : Int), ([2] : List Int)), ((1 : Int), (0 : Int), ([102, 111, 114, 109] : List UInt8), ([([105, 100], [102])] : List qAD), ([] : List UInt8), (1 : Int), ([3, 4] : List Int)), ((1 : Int), (0 : Int), ([105, 110, 112, 117, 116] : List UInt8), ([] : List qAD), ([] : List UInt8), (2 : Int), ([] : List Int)), ((1 : Int), (0 : Int), ([112] : List UInt8), ([] : List qAD), ([] : List UInt8), (2 : Int), ([] : List Int))]), (4, .own qAI [1]), (3, .box [.int .i64 2, .str [102, 111, 114, 109], .nils, .bool false, .str []])] := by
 refine FnM.intro (N := 57) [0, 1, 4, 15, 20, 35, 50] [] 4 Tryz.call155 Tryz.func155 rfl rfl (by kernel_rfl) (fun hpre => ?_)
 repeat' ((conv => whnf);first|(with_reducible first|rfl|exact qAH|exact qAG)|exact True.intro|(intro hq;first|(exfalso;revert hq;decide +kernel)|clear hq|skip)|refine WA ?_ ?_|refine WF ?_|refine W1 rfl ?_ ?_|refine W2 rfl ?_ ?_|refine W3 rfl ?_ ?_|refine W4 ?_ ?_|refine W5 rfl ?_ ?_|refine W6 ?_ ?_|refine WN ?_|refine X1 (W1 rfl ?_ ?_)|refine X1 (W2 rfl ?_ ?_)|refine X2 (W7 rfl ?_ ?_)|refine X3 (W7 rfl ?_ ?_)|refine X4 (W7 rfl ?_ ?_)|refine X5 (W7 rfl ?_ ?_)|refine X7 (by conv => lhs;cbv) rfl ?_|refine X8 (by conv => lhs;cbv) ?_|refine LoopStop.ug 500 ?_|refine ZStop.dir ?_|(refine Ob.mk ?_;decide +kernel))
 all_goals (first | rfl | decide +kernel)
end Go.Vc

namespace Go.Vc
open Go.Proofs
set_option maxRecDepth 100000
set_option maxHeartbeats 40000000
set_option pp.deepTerms true
set_option pp.maxSteps 2000000
instance (priority := 5000) ZO_10 : FnM BA 154 [.loc 0 0, .loc 3 0] [(0, .box [.own 1, .own 2, .nils, .int .i64 5, .int .i64 0, .int .i64 0, .int .i64 0, .int .i64 0, .bool false, .bool false, .str [100, 105, 118]]), (1, .own qAC [((0 : Int), (0 : Int), ([] : List UInt8), ([] : List qAD), ([] : List UInt8), (-1 : Int), ([1] : List Int)), ((1 : Int), (0 : Int), ([104, 116, 109, 108] : List UInt8), ([] : List qAD), ([] : List UInt8), (0 : Int), ([2] : List Int)), ((1 : Int), (0 : Int), ([102, 111, 114, 109] : List UInt8), ([([105, 100], [102])] : List qAD), ([] : List UInt8), (1 : Int), ([3, 4] : List Int)), ((1 : Int), (0 : Int), ([105, 110, 112, 117, 116] : List UInt8), ([] : List qAD), ([] : List UInt8), (2 : Int), ([] : List Int)), ((1 : Int), (0 : Int), ([112] : List UInt8), ([] : List qAD), ([] : List UInt8), (2 : Int), ([] : List Int))]), (2, .own qAI [1]), (3, .box [.str [60, 105, 110, 112, 117, 116, 32, 102, 111, 114, 109, 61, 102, 62, 60, 105, 110, 112, 117, 116, 32, 102, 111, 114, 109, 61, 103, 62, 60, 105, 110, 112, 117, 116, 62]])] True (.agg [.int .i64 1, .str [105, 110, 112, 117, 116], .rd qAT [([102, 111, 114, 109], [102])], .bool false, .str []]) [(0, .box [.own 1, .own 2, .nils, .int .i64 5, .int .i64 0, .int .i64 0, .int .i64 0, .int .i64 0, .bool false, .bool false, .str [100, 105, 118]]), (1, .own qAC [((0 : Int), (0 : Int), ([] : List UInt8), ([] : List qAD), ([] : List UInt8), (-1 : Int), ([1] : List Int)), ((1 : Int), (0 : Int), ([104, 116, 109, 108] : List UInt8), ([] : List qAD), ([] : List UInt8), (0 : Int), ([2] : List Int)), ((1 : Int), (0 : Int), ([102, 111, 114, 109] : List UInt8), ([([105, 100], [102])] : List qAD), ([] : List UInt8), (1 : Int), ([3, 4] : List Int)), ((1 : Int), (0 : Int), ([105, 110, 112, 117, 116] : List UInt8), ([] : List qAD), ([] : List UInt8), (2 : Int), ([] : List Int)), ((1 : Int), (0 : Int), ([112] : List UInt8), ([] : List qAD), ([] : List UInt8), (2 : Int), ([] : List Int))]), (2, .own qAI [1]), (3, .box [.str [60, 105, 110, 112, 117, 116, 32, 102, 111, 114, 109, 61, 103, 62, 60, 105, 110, 112, 117, 116, 62]])] := by
 refine FnM.intro (N := 43) [0, 1, 4, 5, 10] [(3, [0, 0, 0, 0, 1, 0, 0, 0, 1, 1, 3, 3, 3, 3]), (4, [0, 0, 0, 0, 7, 0, 0, 0, 0, 4, 4, 4, 4, 4, 4, 4, 4, 4, 4, 4]), (3000004, [649,714,779,844,909,974,1039,1104,1169,1234])] 4 Tryz.call154 Tryz.func154 rfl rfl (by kernel_rfl) (fun hpre => ?_)
 repeat' ((conv => whnf);first|(with_reducible first|rfl|exact qAH|exact qAG)|exact True.intro|(intro hq;first|(exfalso;revert hq;decide +kernel)|clear hq|skip)|refine WA ?_ ?_|refine WF ?_|refine W1 rfl ?_ ?_|refine W2 rfl ?_ ?_|refine W3 rfl ?_ ?_|refine W4 ?_ ?_|refine W5 rfl ?_ ?_|refine W6 ?_ ?_|refine WN ?_|refine X1 (W1 rfl ?_ ?_)|refine X1 (W2 rfl ?_ ?_)|refine X2 (W7 rfl ?_ ?_)|refine X3 (W7 rfl ?_ ?_)|refine X4 (W7 rfl ?_ ?_)|refine X5 (W7 rfl ?_ ?_)|refine X7 (by conv => lhs;cbv) rfl ?_|refine X8 (by conv => lhs;cbv) ?_|refine LoopStop.ug 500 ?_|refine ZStop.dir ?_|(refine Ob.mk ?_;decide +kernel))
 all_goals (first | rfl | decide +kernel)
end Go.Vc

namespace Go.Vc
open Go.Proofs
set_option maxRecDepth 100000
set_option maxHeartbeats 40000000
set_option pp.deepTerms true
set_option pp.maxSteps 2000000
instance (priority := 5000) ZO_11 : FnM BA 155 [.loc 0 0, .loc 3 0] [(0, .box [.own 1, .own 2, .nils, .int .i64 5, .int .i64 0, .int .i64 0, .int .i64 0, .int .i64 0, .bool false, .bool false, .str [100, 105, 118]]), (1, .own qAC [((0 : Int), (0 : Int), ([] : List UInt8), ([] : List qAD), ([] : List UInt8), (-1 : Int), ([1] : List Int)), ((1 : Int), (0 : Int), ([104, 116, 109, 108] : List UInt8), ([] : List qAD), ([] : List UInt8), (0 : Int), ([2] : List Int)), ((1 : Int), (0 : Int), ([102, 111, 114, 109] : List UInt8), ([([105, 100], [102])] : List qAD), ([] : List UInt8), (1 : Int), ([3, 4] : List Int)), ((1 : Int), (0 : Int), ([105, 110, 112, 117, 116] : List UInt8), ([] : List qAD), ([] : List UInt8), (2 : Int), ([] : List Int)), ((1 : Int), (0 : Int), ([112] : List UInt8), ([] : List qAD), ([] : List UInt8), (2 : Int), ([] : List Int))]), (2, .own qAI [1]), (3, .box [.int .i64 1, .str [105, 110, 112, 117, 116], .rd qAT [([102, 111, 114, 109], [102])], .bool false, .str []])] True (.bool false) [(0, .box [.own 1, .own 4, .nils, .int .i64 5, .int .i64 0, .int .i64 0, .int .i64 0, .int .i64 0, .bool false, .bool false, .str [100, 105, 118]]), (1, .own qAC [((0 : Int), (0 : Int), ([] : List UInt8), ([] : List qAD), ([] : List UInt8), (-1 : Int), ([1] : List Int)), ((1 : Int), (0 : Int), ([104, 116, 109, 108] : List UInt8), ([] : List qAD), ([] : List UInt8), (0 : Int), ([2, 5] : List Int)), ((1 : Int), (0 : Int), ([102, 111, 114, 109] : List UInt8), ([([105, 100], [102])] : List qAD), ([] : List UInt8), (1 : Int), ([3, 4] : List Int)), ((1 : Int), (0 : Int), ([105, 110, 112, 117, 116] : List UInt8), ([] : List qAD), ([] : List UInt8), (2 : Int), ([] : List Int)), ((1 : Int), (0 : Int), ([112] : List UInt8), ([] : List qAD), ([] : List UInt8), (2 : Int), ([] : List Int)), ((1 : Int), (0 : Int), ([105, 110, 112, 117, 116] : List UInt8), ([([102, 111, 114, 109], [102])] : List qAD), ([] : List UInt8), (1 : Int), ([] : List Int))]), (4, .own qAI [1]), (3, .box [.int .i64 1, .str [105, 110, 112, 117, 116], .rd qAT [([102, 111, 114, 109], [102])], .bool false, .str []])] := by
 refine FnM.intro (N := 57) [0, 1, 4, 15, 20, 35, 50] [] 4 Tryz.call155 Tryz.func155 rfl rfl (by kernel_rfl) (fun hpre => ?_)
 repeat' ((conv => whnf);first|(with_reducible first|rfl|exact qAH|exact qAG)|exact True.intro|(intro hq;first|(exfalso;revert hq;decide +kernel)|clear hq|skip)|refine WA ?_ ?_|refine WF ?_|refine W1 rfl ?_ ?_|refine W2 rfl ?_ ?_|refine W3 rfl ?_ ?_|refine W4 ?_ ?_|refine W5 rfl ?_ ?_|refine W6 ?_ ?_|refine WN ?_|refine X1 (W1 rfl ?_ ?_)|refine X1 (W2 rfl ?_ ?_)|refine X2 (W7 rfl ?_ ?_)|refine X3 (W7 rfl ?_ ?_)|refine X4 (W7 rfl ?_ ?_)|refine X5 (W7 rfl ?_ ?_)|refine X7 (by conv => lhs;cbv) rfl ?_|refine X8 (by conv => lhs;cbv) ?_|refine LoopStop.ug 500 ?_|refine ZStop.dir ?_|(refine Ob.mk ?_;decide +kernel))
 all_goals (first | rfl | decide +kernel)
end Go.Vc

namespace Go.Vc
open Go.Proofs
set_option maxRecDepth 100000
set_option maxHeartbeats 40000000
set_option pp.deepTerms true
set_option pp.maxSteps 2000000
instance (priority := 5000) ZO_12 : FnM BA 154 [.loc 0 0, .loc 3 0] [(0, .box [.own 1, .own 2, .nils, .int .i64 5, .int .i64 0, .int .i64 0, .int .i64 0, .int .i64 0, .bool false, .bool false, .str [100, 105, 118]]), (1, .own qAC [((0 : Int), (0 : Int), ([] : List UInt8), ([] : List qAD), ([] : List UInt8), (-1 : Int), ([1] : List Int)), ((1 : Int), (0 : Int), ([104, 116, 109, 108] : List UInt8), ([] : List qAD), ([] : List UInt8), (0 : Int), ([2, 5] : List Int)), ((1 : Int), (0 : Int), ([102, 111, 114, 109] : List UInt8), ([([105, 100], [102])] : List qAD), ([] : List UInt8), (1 : Int), ([3, 4] : List Int)), ((1 : Int), (0 : Int), ([105, 110, 112, 117, 116] : List UInt8), ([] : List qAD), ([] : List UInt8), (2 : Int), ([] : List Int)), ((1 : Int), (0 : Int), ([112] : List UInt8), ([] : List qAD), ([] : List UInt8), (2 : Int), ([] : List Int)), ((1 : Int), (0 : Int), ([105, 110, 112, 117, 116] : List UInt8), ([([102, 111, 114, 109], [102])] : List qAD), ([] : List UInt8), (1 : Int), ([] : List Int))]), (2, .own qAI [1]), (3, .box [.str [60, 105, 110, 112, 117, 116, 32, 102, 111, 114, 109, 61, 103, 62, 60, 105, 110, 112, 117, 116, 62]])] True (.agg [.int .i64 1, .str [105, 110, 112, 117, 116], .rd qAT [([102, 111, 114, 109], [103])], .bool false, .str []]) [(0, .box [.own 1, .own 2, .nils, .int .i64 5, .int .i64 0, .int .i64 0, .int .i64 0, .int .i64 0, .bool false, .bool false, .str [100, 105, 118]]), (1, .own qAC [((0 : Int), (0 : Int), ([] : List UInt8), ([] : List qAD), ([] : List UInt8), (-1 : Int), ([1] : List Int)), ((1 : Int), (0 : Int), ([104, 116, 109, 108] : List UInt8), ([] : List qAD), ([] : List UInt8), (0 : Int), ([2, 5] : List Int)), ((1 : Int), (0 : Int), ([102, 111, 114, 109] : List UInt8), ([([105, 100], [102])] : List qAD), ([] : List UInt8), (1 : Int), ([3, 4] : List Int)), ((1 : Int), (0 : Int), ([105, 110, 112, 117, 116] : List UInt8), ([] : List qAD), ([] : List UInt8), (2 : Int), ([] : List Int)), ((1 : Int), (0 : Int), ([112] : List UInt8), ([] : List qAD), ([] : List UInt8), (2 : Int), ([] : List Int)), ((1 : Int), (0 : Int), ([105, 110, 112, 117, 116] : List UInt8), ([([102, 111, 114, 109], [102])] : List qAD), ([] : List UInt8), (1 : Int), ([] : List Int))]), (2, .own qAI [1]), (3, .box [.str [60, 105, 110, 112, 117, 116, 62]])] := by
 refine FnM.intro (N := 43) [0, 1, 4, 5, 10] [(3, [0, 0, 0, 0, 1, 0, 0, 0, 1, 1, 3, 3, 3, 3]), (4, [0, 0, 0, 0, 7, 0, 0, 0, 0, 4, 4, 4, 4, 4, 4, 4, 4, 4, 4, 4]), (3000004, [649,714,779,844,909,974,1039,1104,1169,1234])] 4 Tryz.call154 Tryz.func154 rfl rfl (by kernel_rfl) (fun hpre => ?_)
 repeat' ((conv => whnf);first|(with_reducible first|rfl|exact qAH|exact qAG)|exact True.intro|(intro hq;first|(exfalso;revert hq;decide +kernel)|clear hq|skip)|refine WA ?_ ?_|refine WF ?_|refine W1 rfl ?_ ?_|refine W2 rfl ?_ ?_|refine W3 rfl ?_ ?_|refine W4 ?_ ?_|refine W5 rfl ?_ ?_|refine W6 ?_ ?_|refine WN ?_|refine X1 (W1 rfl ?_ ?_)|refine X1 (W2 rfl ?_ ?_)|refine X2 (W7 rfl ?_ ?_)|refine X3 (W7 rfl ?_ ?_)|refine X4 (W7 rfl ?_ ?_)|refine X5 (W7 rfl ?_ ?_)|refine X7 (by conv => lhs;cbv) rfl ?_|refine X8 (by conv => lhs;cbv) ?_|refine LoopStop.ug 500 ?_|refine ZStop.dir ?_|(refine Ob.mk ?_;decide +kernel))
 all_goals (first | rfl | decide +kernel)
end Go.Vc

namespace Go.Vc
open Go.Proofs
set_option maxRecDepth 100000
set_option maxHeartbeats 40000000
set_option pp.deepTerms true
set_option pp.maxSteps 2000000
instance (priority := 5000) ZO_13 : FnM BA 155 [.loc 0 0, .loc 3 0] [(0, .box [.own 1, .own 2, .nils, .int .i64 5, .int .i64 0, .int .i64 0, .int .i64 0, .int .i64 0, .bool false, .bool false, .str [100, 105, 118]]), (1, .own qAC [((0 : Int), (0 : Int), ([] : List UInt8), ([] : List qAD), ([] : List UInt8), (-1 : Int), ([1] : List Int)), ((1 : Int), (0 : Int), ([104, 116, 109, 108] : List UInt8), ([] : List qAD), ([] : List UInt8), (0 : Int), ([2, 5] : List Int)), ((1 : Int), (0 : Int), ([102, 111, 114, 109] : List UInt8), ([([105, 100], [102])] : List qAD), ([] : List UInt8), (1 : Int), ([3, 4] : List Int)), ((1 : Int), (0 : Int), ([105, 110, 112, 117, 116] : List UInt8), ([] : List qAD), ([] : List UInt8), (2 : Int), ([] : List Int)), ((1 : Int), (0 : Int), ([112] : List UInt8), ([] : List qAD), ([] : List UInt8), (2 : Int), ([] : List Int)), ((1 : Int), (0 : Int), ([105, 110, 112, 117, 116] : List UInt8), ([([102, 111, 114, 109], [102])] : List qAD), ([] : List UInt8), (1 : Int), ([] : List Int))]), (2, .own qAI [1]), (3, .box [.int .i64 1, .str [105, 110, 112, 117, 116], .rd qAT [([102, 111, 114, 109], [103])], .bool false, .str []])] True (.bool false) [(0, .box [.own 1, .own 4, .nils, .int .i64 5, .int .i64 0, .int .i64 0, .int .i64 0, .int .i64 0, .bool false, .bool false, .str [100, 105, 118]]), (1, .own qAC [((0 : Int), (0 : Int), ([] : List UInt8), ([] : List qAD), ([] : List UInt8), (-1 : Int), ([1] : List Int)), ((1 : Int), (0 : Int), ([104, 116, 109, 108] : List UInt8), ([] : List qAD), ([] : List UInt8), (0 : Int), ([2, 5, 6] : List Int)), ((1 : Int), (0 : Int), ([102, 111, 114, 109] : List UInt8), ([([105, 100], [102])] : List qAD), ([] : List UInt8), (1 : Int), ([3, 4] : List Int)), ((1 : Int), (0 : Int), ([105, 110, 112, 117, 116] : List UInt8), ([] : List qAD), ([] : List UInt8), (2 : Int), ([] : List Int)), ((1 : Int), (0 : Int), ([112] : List UInt8), ([] : List qAD), ([] : List UInt8), (2 : Int), ([] : List Int)), ((1 : Int), (0 : Int), ([105, 110, 112, 117, 116] : List UInt8), ([([102, 111, 114, 109], [102])] : List qAD), ([] : List UInt8), (1 : Int), ([] : List Int)), ((1 : Int), (0 : Int), ([105, 110, 112, 117, 116] : List UInt8), ([([102, 111, 114, 109], [103])] : List qAD), ([] : List UInt8), (1 : Int), ([] : List Int))]), (4, .own qAI [1]), (3, .box [.int .i64 1, .str [105, 110, 112, 117, 116], .rd qAT [([102, 111, 114, 109], [103])], .bool false, .str []])] := by
 refine FnM.intro (N := 57) [0, 1, 4, 15, 20, 35, 50] [] 4 Tryz.call155 Tryz.func155 rfl rfl (by kernel_rfl) (fun hpre => ?_)
 repeat' ((conv => whnf);first|(with_reducible first|rfl|exact qAH|exact qAG)|exact True.intro|(intro hq;first|(exfalso;revert hq;decide +kernel)|clear hq|skip)|refine WA ?_ ?_|refine WF ?_|refine W1 rfl ?_ ?_|refine W2 rfl ?_ ?_|refine W3 rfl ?_ ?_|refine W4 ?_ ?_|refine W5 rfl ?_ ?_|refine W6 ?_ ?_|refine WN ?_|refine X1 (W1 rfl ?_ ?_)|refine X1 (W2 rfl ?_ ?_)|refine X2 (W7 rfl ?_ ?_)|refine X3 (W7 rfl ?_ ?_)|refine X4 (W7 rfl ?_ ?_)|refine X5 (W7 rfl ?_ ?_)|refine X7 (by conv => lhs;cbv) rfl ?_|refine X8 (by conv => lhs;cbv) ?_|refine LoopStop.ug 500 ?_|refine ZStop.dir ?_|(refine Ob.mk ?_;decide +kernel))
 all_goals (first | rfl | decide +kernel)
end Go.Vc

namespace Go.Vc
open Go.Proofs
set_option maxRecDepth 100000
set_option maxHeartbeats 40000000
set_option pp.deepTerms true
set_option pp.maxSteps 2000000
instance (priority := 5000) ZO_14 : FnM BA 154 [.loc 0 0, .loc 3 0] [(0, .box [.own 1, .own 2, .nils, .int .i64 5, .int .i64 0, .int .i64 0, .int .i64 0, .int .i64 0, .bool false, .bool false, .str [100, 105, 118]]), (1, .own qAC [((0 : Int), (0 : Int), ([] : List UInt8), ([] : List qAD), ([] : List UInt8), (-1 : Int), ([1] : List Int)), ((1 : Int), (0 : Int), ([104, 116, 109, 108] : List UInt8), ([] : List qAD), ([] : List UInt8), (0 : Int), ([2, 5, 6] : List Int)), ((1 : Int), (0 : Int), ([102, 111, 114, 109] : List UInt8), ([([105, 100], [102])] : List qAD), ([] : List UInt8), (1 : Int), ([3, 4] : List Int)), ((1 : Int), (0 : Int), ([105, 110, 112, 117, 116] : List UInt8), ([] : List qAD), ([] : List UInt8), (2 : Int), ([] : List Int)), ((1 : Int), (0 : Int), ([112] : List UInt8), ([] : List qAD), ([] : List UInt8), (2 : Int), ([] : List Int)), ((1 : Int), (0 : Int), ([105, 110, 112, 117, 116] : List UInt8), ([([102, 111, 114, 109], [102])] : List qAD), ([] : List UInt8), (1 : Int), ([] : List Int)), ((1 : Int), (0 : Int), ([105, 110, 112, 117, 116] : List UInt8), ([([102, 111, 114, 109], [103])] : List qAD), ([] : List UInt8), (1 : Int), ([] : List Int))]), (2, .own qAI [1]), (3, .box [.str [60, 105, 110, 112, 117, 116, 62]])] True (.agg [.int .i64 1, .str [105, 110, 112, 117, 116], .nils, .bool false, .str []]) [(0, .box [.own 1, .own 2, .nils, .int .i64 5, .int .i64 0, .int .i64 0, .int .i64 0, .int .i64 0, .bool false, .bool false, .str [100, 105, 118]]), (1, .own qAC [((0 : Int), (0 : Int), ([] : List UInt8), ([] : List qAD), ([] : List UInt8), (-1 : Int), ([1] : List Int)), ((1 : Int), (0 : Int), ([104, 116, 109, 108] : List UInt8), ([] : List qAD), ([] : List UInt8), (0 : Int), ([2, 5, 6] : List Int)), ((1 : Int), (0 : Int), ([102, 111, 114, 109] : List UInt8), ([([105, 100], [102])] : List qAD), ([] : List UInt8), (1 : Int), ([3, 4] : List Int)), ((1 : Int), (0 : Int), ([105, 110, 112, 117, 116] : List UInt8), ([] : List qAD), ([] : List UInt8), (2 : Int), ([] : List Int)), ((1 : Int), (0 : Int), ([112] : List UInt8), ([] : List qAD), ([] : List UInt8), (2 : Int), ([] : List Int)), ((1 : Int), (0 : Int), ([105, 110, 112, 117, 116] : List UInt8), ([([102, 111, 114, 109], [102])] : List qAD), ([] : List UInt8), (1 : Int), ([] : List Int)), ((1 : Int), (0 : Int), ([105, 110, 112, 117, 116] : List UInt8), ([([102, 111, 114, 109], [103])] : List qAD), ([] : List UInt8), (1 : Int), ([] : List Int))]), (2, .own qAI [1]), (3, .box [.str []])] := by
 refine FnM.intro (N := 43) [0, 1, 4, 5, 10] [(3, [0, 0, 0, 0, 1, 0, 0, 0, 1, 1, 3, 3, 3, 3]), (4, [0, 0, 0, 0, 7, 0, 0, 0, 0, 4, 4, 4, 4, 4, 4, 4, 4, 4, 4, 4]), (3000004, [649,714,779,844,909,974,1039,1104,1169,1234])] 4 Tryz.call154 Tryz.func154 rfl rfl (by kernel_rfl) (fun hpre => ?_)
 repeat' ((conv => whnf);first|(with_reducible first|rfl|exact qAH|exact qAG)|exact True.intro|(intro hq;first|(exfalso;revert hq;decide +kernel)|clear hq|skip)|refine WA ?_ ?_|refine WF ?_|refine W1 rfl ?_ ?_|refine W2 rfl ?_ ?_|refine W3 rfl ?_ ?_|refine W4 ?_ ?_|refine W5 rfl ?_ ?_|refine W6 ?_ ?_|refine WN ?_|refine X1 (W1 rfl ?_ ?_)|refine X1 (W2 rfl ?_ ?_)|refine X2 (W7 rfl ?_ ?_)|refine X3 (W7 rfl ?_ ?_)|refine X4 (W7 rfl ?_ ?_)|refine X5 (W7 rfl ?_ ?_)|refine X7 (by conv => lhs;cbv) rfl ?_|refine X8 (by conv => lhs;cbv) ?_|refine LoopStop.ug 500 ?_|refine ZStop.dir ?_|(refine Ob.mk ?_;decide +kernel))
 all_goals (first | rfl | decide +kernel)
end Go.Vc

namespace Go.Vc
open Go.Proofs
set_option maxRecDepth 100000
set_option maxHeartbeats 40000000
set_option pp.deepTerms true
set_option pp.maxSteps 2000000
instance (priority := 5000) ZO_15 : FnM BA 155 [.loc 0 0, .loc 3 0] [(0, .box [.own 1, .own 2, .nils, .int .i64 5, .int .i64 0, .int .i64 0, .int .i64 0, .int .i64 0, .bool false, .bool false, .str [100, 105, 118]]), (1, .own qAC [((0 : Int), (0 : Int), ([] : List UInt8), ([] : List qAD), ([] : List UInt8), (-1 : Int), ([1] : List Int)), ((1 : Int), (0 : Int), ([104, 116, 109, 108] : List UInt8), ([] : List qAD), ([] : List UInt8), (0 : Int), ([2, 5, 6] : List Int)), ((1 : Int), (0 : Int), ([102, 111, 114, 109] : List UInt8), ([([105, 100], [102])] : List qAD), ([] : List UInt8), (1 : Int), ([3, 4] : List Int)), ((1 : Int), (0 : Int), ([105, 110, 112, 117, 116] : List UInt8), ([] : List qAD), ([] : List UInt8), (2 : Int), ([] : List Int)), ((1 : Int), (0 : Int), ([112] : List UInt8), ([] : List qAD), ([] : List UInt8), (2 : Int), ([] : List Int)), ((1 : Int), (0 : Int), ([105, 110, 112, 117, 116] : List UInt8), ([([102, 111, 114, 109], [102])] : List qAD), ([] : List UInt8), (1 : Int), ([] : List Int)), ((1 : Int), (0 : Int), ([105, 110, 112, 117, 116] : List UInt8), ([([102, 111, 114, 109], [103])] : List qAD), ([] : List UInt8), (1 : Int), ([] : List Int))]), (2, .own qAI [1]), (3, .box [.int .i64 1, .str [105, 110, 112, 117, 116], .nils, .bool false, .str []])] True (.bool false) [(0, .box [.own 1, .own 4, .nils, .int .i64 5, .int .i64 0, .int .i64 0, .int .i64 0, .int .i64 0, .bool false, .bool false, .str [100, 105, 118]]), (1, .own qAC [((0 : Int), (0 : Int), ([] : List UInt8), ([] : List qAD), ([] : List UInt8), (-1 : Int), ([1] : List Int)), ((1 : Int), (0 : Int), ([104, 116, 109, 108] : List UInt8), ([] : List qAD), ([] : List UInt8), (0 : Int), ([2, 5, 6, 7] : List Int)), ((1 : Int), (0 : Int), ([102, 111, 114, 109] : List UInt8), ([([105, 100], [102])] : List qAD), ([] : List UInt8), (1 : Int), ([3, 4] : List Int)), ((1 : Int), (0 : Int), ([105, 110, 112, 117, 116] : List UInt8), ([] : List qAD), ([] : List UInt8), (2 : Int), ([] : List Int)), ((1 : Int), (0 : Int), ([112] : List UInt8), ([] : List qAD), ([] : List UInt8), (2 : Int), ([] : List Int)), ((1 : Int), (0 : Int), ([105, 110, 112, 117, 116] : List UInt8), ([([102, 111, 114, 109], [102])] : List qAD), ([] : List UInt8), (1 : Int), ([] : List Int)), ((1 : Int), (0 : Int), ([105, 110, 112, 117, 116] : List UInt8), ([([102, 111, 114, 109], [103])] : List qAD), ([] : List UInt8), (1 : Int), ([] : List Int)), ((1 : Int), (0 : Int), ([105, 110, 112, 117, 116] : List UInt8), ([] : List qAD), ([] : List UInt8), (1 : Int), ([] : List Int))]), (4, .own qAI [1]), (3, .box [.int .i64 1, .str [105, 110, 112, 117, 116], .nils, .bool false, .str []])] := by
 refine FnM.intro (N := 57) [0, 1, 4, 15, 20, 35, 50] [] 4 Tryz.call155 Tryz.func155 rfl rfl (by kernel_rfl) (fun hpre => ?_)
 repeat' ((conv => whnf);first|(with_reducible first|rfl|exact qAH|exact qAG)|exact True.intro|(intro hq;first|(exfalso;revert hq;decide +kernel)|clear hq|skip)|refine WA ?_ ?_|refine WF ?_|refine W1 rfl ?_ ?_|refine W2 rfl ?_ ?_|refine W3 rfl ?_ ?_|refine W4 ?_ ?_|refine W5 rfl ?_ ?_|refine W6 ?_ ?_|refine WN ?_|refine X1 (W1 rfl ?_ ?_)|refine X1 (W2 rfl ?_ ?_)|refine X2 (W7 rfl ?_ ?_)|refine X3 (W7 rfl ?_ ?_)|refine X4 (W7 rfl ?_ ?_)|refine X5 (W7 rfl ?_ ?_)|refine X7 (by conv => lhs;cbv) rfl ?_|refine X8 (by conv => lhs;cbv) ?_|refine LoopStop.ug 500 ?_|refine ZStop.dir ?_|(refine Ob.mk ?_;decide +kernel))
 all_goals (first | rfl | decide +kernel)
end Go.Vc

namespace Go.Vc
open Go.Proofs
set_option maxRecDepth 100000
set_option maxHeartbeats 40000000
set_option pp.deepTerms true
set_option pp.maxSteps 2000000
instance (priority := 5000) ZO_16 : FnM BA 154 [.loc 0 0, .loc 3 0] [(0, .box [.own 1, .own 2, .nils, .int .i64 5, .int .i64 0, .int .i64 0, .int .i64 0, .int .i64 0, .bool false, .bool false, .str [100, 105, 118]]), (1, .own qAC [((0 : Int), (0 : Int), ([] : List UInt8), ([] : List qAD), ([] : List UInt8), (-1 : Int), ([1] : List Int)), ((1 : Int), (0 : Int), ([104, 116, 109, 108] : List UInt8), ([] : List qAD), ([] : List UInt8), (0 : Int), ([2, 5, 6, 7] : List Int)), ((1 : Int), (0 : Int), ([102, 111, 114, 109] : List UInt8), ([([105, 100], [102])] : List qAD), ([] : List UInt8), (1 : Int), ([3, 4] : List Int)), ((1 : Int), (0 : Int), ([105, 110, 112, 117, 116] : List UInt8), ([] : List qAD), ([] : List UInt8), (2 : Int), ([] : List Int)), ((1 : Int), (0 : Int), ([112] : List UInt8), ([] : List qAD), ([] : List UInt8), (2 : Int), ([] : List Int)), ((1 : Int), (0 : Int), ([105, 110, 112, 117, 116] : List UInt8), ([([102, 111, 114, 109], [102])] : List qAD), ([] : List UInt8), (1 : Int), ([] : List Int)), ((1 : Int), (0 : Int), ([105, 110, 112, 117, 116] : List UInt8), ([([102, 111, 114, 109], [103])] : List qAD), ([] : List UInt8), (1 : Int), ([] : List Int)), ((1 : Int), (0 : Int), ([105, 110, 112, 117, 116] : List UInt8), ([] : List qAD), ([] : List UInt8), (1 : Int), ([] : List Int))]), (2, .own qAI [1]), (3, .box [.str []])] True (.agg [.int .i64 0, .str [], .nils, .bool false, .str []]) [(0, .box [.own 1, .own 2, .nils, .int .i64 5, .int .i64 0, .int .i64 0, .int .i64 0, .int .i64 0, .bool false, .bool false, .str [100, 105, 118]]), (1, .own qAC [((0 : Int), (0 : Int), ([] : List UInt8), ([] : List qAD), ([] : List UInt8), (-1 : Int), ([1] : List Int)), ((1 : Int), (0 : Int), ([104, 116, 109, 108] : List UInt8), ([] : List qAD), ([] : List UInt8), (0 : Int), ([2, 5, 6, 7] : List Int)), ((1 : Int), (0 : Int), ([102, 111, 114, 109] : List UInt8), ([([105, 100], [102])] : List qAD), ([] : List UInt8), (1 : Int), ([3, 4] : List Int)), ((1 : Int), (0 : Int), ([105, 110, 112, 117, 116] : List UInt8), ([] : List qAD), ([] : List UInt8), (2 : Int), ([] : List Int)), ((1 : Int), (0 : Int), ([112] : List UInt8), ([] : List qAD), ([] : List UInt8), (2 : Int), ([] : List Int)), ((1 : Int), (0 : Int), ([105, 110, 112, 117, 116] : List UInt8), ([([102, 111, 114, 109], [102])] : List qAD), ([] : List UInt8), (1 : Int), ([] : List Int)), ((1 : Int), (0 : Int), ([105, 110, 112, 117, 116] : List UInt8), ([([102, 111, 114, 109], [103])] : List qAD), ([] : List UInt8), (1 : Int), ([] : List Int)), ((1 : Int), (0 : Int), ([105, 110, 112, 117, 116] : List UInt8), ([] : List qAD), ([] : List UInt8), (1 : Int), ([] : List Int))]), (2, .own qAI [1]), (3, .box [.str []])] := by
 refine FnM.intro (N := 43) [0, 1, 4, 5, 10] [(3, [0, 0, 0, 0, 1, 0, 0, 0, 1, 1, 3, 3, 3, 3]), (4, [0, 0, 0, 0, 7, 0, 0, 0, 0, 4, 4, 4, 4, 4, 4, 4, 4, 4, 4, 4]), (3000004, [649,714,779,844,909,974,1039,1104,1169,1234])] 4 Tryz.call154 Tryz.func154 rfl rfl (by kernel_rfl) (fun hpre => ?_)
 repeat' ((conv => whnf);first|(with_reducible first|rfl|exact qAH|exact qAG)|exact True.intro|(intro hq;first|(exfalso;revert hq;decide +kernel)|clear hq|skip)|refine WA ?_ ?_|refine WF ?_|refine W1 rfl ?_ ?_|refine W2 rfl ?_ ?_|refine W3 rfl ?_ ?_|refine W4 ?_ ?_|refine W5 rfl ?_ ?_|refine W6 ?_ ?_|refine WN ?_|refine X1 (W1 rfl ?_ ?_)|refine X1 (W2 rfl ?_ ?_)|refine X2 (W7 rfl ?_ ?_)|refine X3 (W7 rfl ?_ ?_)|refine X4 (W7 rfl ?_ ?_)|refine X5 (W7 rfl ?_ ?_)|refine X7 (by conv => lhs;cbv) rfl ?_|refine X8 (by conv => lhs;cbv) ?_|refine LoopStop.ug 500 ?_|refine ZStop.dir ?_|(refine Ob.mk ?_;decide +kernel))
 all_goals (first | rfl | decide +kernel)
end Go.Vc

namespace Go.Vc
open Go.Proofs
set_option maxRecDepth 100000
set_option maxHeartbeats 40000000
set_option pp.deepTerms true
set_option pp.maxSteps 2000000
instance (priority := 5000) ZO_17 : FnM BA 155 [.loc 0 0, .loc 3 0] [(0, .box [.own 1, .own 2, .nils, .int .i64 5, .int .i64 0, .int .i64 0, .int .i64 0, .int .i64 0, .bool false, .bool false, .str [100, 105, 118]]), (1, .own qAC [((0 : Int), (0 : Int), ([] : List UInt8), ([] : List qAD), ([] : List UInt8), (-1 : Int), ([1] : List Int)), ((1 : Int), (0 : Int), ([104, 116, 109, 108] : List UInt8), ([] : List qAD), ([] : List UInt8), (0 : Int), ([2, 5, 6, 7] : List Int)), ((1 : Int), (0 : Int), ([102, 111, 114, 109] : List UInt8), ([([105, 100], [102])] : List qAD), ([] : List UInt8), (1 : Int), ([3, 4] : List Int)), ((1 : Int), (0 : Int), ([105, 110, 112, 117, 116] : List UInt8), ([] : List qAD), ([] : List UInt8), (2 : Int), ([] : List Int)), ((1 : Int), (0 : Int), ([112] : List UInt8), ([] : List qAD), ([] : List UInt8), (2 : Int), ([] : List Int)), ((1 : Int), (0 : Int), ([105, 110, 112, 117, 116] : List UInt8), ([([102, 111, 114, 109], [102])] : List qAD), ([] : List UInt8), (1 : Int), ([] : List Int)), ((1 : Int), (0 : Int), ([105, 110, 112, 117, 116] : List UInt8), ([([102, 111, 114, 109], [103])] : List qAD), ([] : List UInt8), (1 : Int), ([] : List Int)), ((1 : Int), (0 : Int), ([105, 110, 112, 117, 116] : List UInt8), ([] : List qAD), ([] : List UInt8), (1 : Int), ([] : List Int))]), (2, .own qAI [1]), (3, .box [.int .i64 0, .str [], .nils, .bool false, .str []])] True (.bool false) [(0, .box [.own 1, .own 2, .nils, .int .i64 5, .int .i64 0, .int .i64 0, .int .i64 0, .int .i64 0, .bool false, .bool false, .str [100, 105, 118]]), (1, .own qAC [((0 : Int), (0 : Int), ([] : List UInt8), ([] : List qAD), ([] : List UInt8), (-1 : Int), ([1] : List Int)), ((1 : Int), (0 : Int), ([104, 116, 109, 108] : List UInt8), ([] : List qAD), ([] : List UInt8), (0 : Int), ([2, 5, 6, 7] : List Int)), ((1 : Int), (0 : Int), ([102, 111, 114, 109] : List UInt8), ([([105, 100], [102])] : List qAD), ([] : List UInt8), (1 : Int), ([3, 4] : List Int)), ((1 : Int), (0 : Int), ([105, 110, 112, 117, 116] : List UInt8), ([] : List qAD), ([] : List UInt8), (2 : Int), ([] : List Int)), ((1 : Int), (0 : Int), ([112] : List UInt8), ([] : List qAD), ([] : List UInt8), (2 : Int), ([] : List Int)), ((1 : Int), (0 : Int), ([105, 110, 112, 117, 116] : List UInt8), ([([102, 111, 114, 109], [102])] : List qAD), ([] : List UInt8), (1 : Int), ([] : List Int)), ((1 : Int), (0 : Int), ([105, 110, 112, 117, 116] : List UInt8), ([([102, 111, 114, 109], [103])] : List qAD), ([] : List UInt8), (1 : Int), ([] : List Int)), ((1 : Int), (0 : Int), ([105, 110, 112, 117, 116] : List UInt8), ([] : List qAD), ([] : List UInt8), (1 : Int), ([] : List Int))]), (2, .own qAI [1]), (3, .box [.int .i64 0, .str [], .nils, .bool false, .str []])] := by
 refine FnM.intro (N := 57) [0, 1, 4, 15, 20, 35, 50] [] 4 Tryz.call155 Tryz.func155 rfl rfl (by kernel_rfl) (fun hpre => ?_)
 repeat' ((conv => whnf);first|(with_reducible first|rfl|exact qAH|exact qAG)|exact True.intro|(intro hq;first|(exfalso;revert hq;decide +kernel)|clear hq|skip)|refine WA ?_ ?_|refine WF ?_|refine W1 rfl ?_ ?_|refine W2 rfl ?_ ?_|refine W3 rfl ?_ ?_|refine W4 ?_ ?_|refine W5 rfl ?_ ?_|refine W6 ?_ ?_|refine WN ?_|refine X1 (W1 rfl ?_ ?_)|refine X1 (W2 rfl ?_ ?_)|refine X2 (W7 rfl ?_ ?_)|refine X3 (W7 rfl ?_ ?_)|refine X4 (W7 rfl ?_ ?_)|refine X5 (W7 rfl ?_ ?_)|refine X7 (by conv => lhs;cbv) rfl ?_|refine X8 (by conv => lhs;cbv) ?_|refine LoopStop.ug 500 ?_|refine ZStop.dir ?_|(refine Ob.mk ?_;decide +kernel))
 all_goals (first | rfl | decide +kernel)
end Go.Vc

namespace Go.Vc
open Go.Proofs
set_option maxRecDepth 10000
instance decN1 : DecidableEq (List UInt8) := inferInstance
instance decN2 : DecidableEq (List UInt8 × List UInt8) := instDecidableEqProd
instance decN3 : DecidableEq (Int × List Int) := instDecidableEqProd
instance decN4 : DecidableEq (List (List UInt8 × List UInt8)) := instDecidableEqList
instance decN5 : DecidableEq (List UInt8 × Int × List Int) := instDecidableEqProd
instance decNode : DecidableEq qAF := (instDecidableEqProd : DecidableEq (Int × Int × List UInt8 × List (List UInt8 × List UInt8) × List UInt8 × Int × List Int))
def dfsF (K : Nat → List Int) : Nat → List Bool → Nat → Nat → Nat → Option (List Ev × List Bool × Nat)
 | 0, _, _, _, _ => none
 | f + 1, s, i, j, c =>
  if j < (K i).length then
   if okK s ((K i).getD j 0) = true then
    match dfsF K f (s.set ((K i).getD j 0).toNat true) ((K i).getD j 0).toNat 0 (c + 1) with
    | none => none
    | some r1 =>
     match dfsF K f r1.2.1 i (j + 1) r1.2.2 with
     | none => none
     | some r2 => some ((((K i).getD j 0).toNat, (i : Int), c, false) :: (r1.1 ++ r2.1), r2.2.1, r2.2.2)
   else dfsF K f s i (j + 1) c
  else some ([(i, 0, c, true)], s, c + 1)
theorem qWW {K : Nat → List Int} : ∀ (f : Nat) (s : List Bool) (i j c : Nat) (r : List Ev × List Bool × Nat), dfsF K f s i j c = some r → dfs K s i j c = r := by
 intro f
 induction f with
 | zero => intro s i j c r h; cases h
 | succ f ih =>
  intro s i j c r h
  rw [dfsF] at h
  split at h
  ·rename_i hj
   split at h
   ·rename_i hk
    split at h
    ·cases h
    ·rename_i r1 h1
     split at h
     ·cases h
     ·rename_i r2 h2
      cases h
      rw [qE4 hj hk, ih _ _ _ _ _ h1, ih _ _ _ _ _ h2]
   ·rename_i hk
    rw [qCW hj (by simpa using hk)]
    exact ih _ _ _ _ _ h
  ·rename_i hj
   cases h
   exact qCY hj
def finF (t : List qAF) (f : Nat) : Option St :=
 if t.length = 0 then none else
 match dfsF (qAB t) f ((List.replicate t.length false).set 0 true) 0 0 1 with
 | some r => some ((st0 t.length).run ((0, -1, 0, false) :: r.1))
 | none => none
theorem qVR {t : List qAF} {f : Nat} {y : St} (h : finF t f = some y) : fin t = y := by
 unfold finF at h
 split at h
 ·cases h
 ·rename_i h0
  split at h
  ·rename_i r hr
   cases h
   unfold fin finT evsT
   rw [if_neg h0, runS, runS, List.append_nil, qWW _ _ _ _ _ _ hr]
  ·cases h
def putF (t : List qAF) (k f : Nat) : Option (List qAF) :=
 match dfsF (qAB t) f ((List.replicate t.length false).set k true) k 0 0 with
 | some r => some (({ out := [mkN (t.getD k qAC.dflt) (-1)], P := [0] } : PSt).run t r.1).out
 | none => none
theorem qU7 {t : List qAF} {k f : Nat} {x : List qAF} (h : putF t k f = some x) : putO t (qAB t) [] (List.replicate t.length false) k (-1) = x := by
 unfold putF at h
 split at h
 ·rename_i r hr
  cases h
  unfold putO pS
  rw [qWW _ _ _ _ _ _ hr]
  rfl
 ·cases h
def subF (t : List qAF) (i : Int) (f : Nat) : Option (List qAF) :=
 match finF t f, putF t 0 f with
 | some y, some x =>
  if qE9 t && decide (t.length ≤ 45) && qE9 x && decide (y.L.length ≤ x.length) && decide (x.length ≤ 1000) && decide (0 < t.length) then
   match qTQ (natI y.L) i with
   | none => some [qW8]
   | some k => match putF x k f with | some z => some (bareT z) | none => none
  else none
 | _, _ => none
theorem qbZ {t : List qAF} {i : Int} {f : Nat} {T : List qAF} (h : subF t i f = some T) : qTD t ∧ subT t i = T := by
 unfold subF at h
 split at h
 ·rename_i y x hy hx
  split at h
  ·rename_i hc
   simp only [Bool.and_eq_true, decide_eq_true_eq] at hc
   have e1 := qVR hy
   have e0 : ¬ t = [] := fun e => by rw [e] at hc; exact absurd hc.2 (by decide)
   have e2 : qD1 t = x := by unfold qD1; rw [if_neg e0]; exact qU7 hx
   refine ⟨⟨hc.1.1.1.1.1, hc.1.1.1.1.2, by rw [e2]; exact hc.1.1.1.2, by rw [e1, e2]; exact hc.1.1.2, by rw [e2]; exact hc.1.2⟩, ?_⟩
   unfold subT
   rw [e1, e2]
   split at h
   ·rename_i hk; rw [hk]; exact Option.some.inj h
   ·rename_i k hk
    rw [hk]
    split at h
    ·rename_i z hz
     show qcK x k = T
     unfold qcK
     rw [qU7 hz]
     exact Option.some.inj h
    ·cases h
  ·cases h
 ·cases h
end Go.Vc

namespace Go.Vc
open Go.Proofs
set_option maxRecDepth 100000
set_option maxHeartbeats 40000000
abbrev ZO_N : List qAF := [((0 : Int), (0 : Int), ([] : List UInt8), ([] : List qAD), ([] : List UInt8), (-1 : Int), ([1] : List Int)), ((1 : Int), (0 : Int), ([104, 116, 109, 108] : List UInt8), ([] : List qAD), ([] : List UInt8), (0 : Int), ([2, 5, 6, 7] : List Int)), ((1 : Int), (0 : Int), ([102, 111, 114, 109] : List UInt8), ([([105, 100], [102])] : List qAD), ([] : List UInt8), (1 : Int), ([3, 4] : List Int)), ((1 : Int), (0 : Int), ([105, 110, 112, 117, 116] : List UInt8), ([] : List qAD), ([] : List UInt8), (2 : Int), ([] : List Int)), ((1 : Int), (0 : Int), ([112] : List UInt8), ([] : List qAD), ([] : List UInt8), (2 : Int), ([] : List Int)), ((1 : Int), (0 : Int), ([105, 110, 112, 117, 116] : List UInt8), ([([102, 111, 114, 109], [102])] : List qAD), ([] : List UInt8), (1 : Int), ([] : List Int)), ((1 : Int), (0 : Int), ([105, 110, 112, 117, 116] : List UInt8), ([([102, 111, 114, 109], [103])] : List qAD), ([] : List UInt8), (1 : Int), ([] : List Int)), ((1 : Int), (0 : Int), ([105, 110, 112, 117, 116] : List UInt8), ([] : List qAD), ([] : List UInt8), (1 : Int), ([] : List Int))]
abbrev ZO_T : List qAF := [((0 : Int), (0 : Int), ([] : List UInt8), ([] : List qAD), ([] : List UInt8), (-1 : Int), ([1, 4, 5, 6] : List Int)), ((1 : Int), (0 : Int), ([102, 111, 114, 109] : List UInt8), ([([105, 100], [102])] : List qAD), ([] : List UInt8), (0 : Int), ([2, 3] : List Int)), ((1 : Int), (0 : Int), ([105, 110, 112, 117, 116] : List UInt8), ([] : List qAD), ([] : List UInt8), (1 : Int), ([] : List Int)), ((1 : Int), (0 : Int), ([112] : List UInt8), ([] : List qAD), ([] : List UInt8), (1 : Int), ([] : List Int)), ((1 : Int), (0 : Int), ([105, 110, 112, 117, 116] : List UInt8), ([([102, 111, 114, 109], [102])] : List qAD), ([] : List UInt8), (0 : Int), ([] : List Int)), ((1 : Int), (0 : Int), ([105, 110, 112, 117, 116] : List UInt8), ([([102, 111, 114, 109], [103])] : List qAD), ([] : List UInt8), (0 : Int), ([] : List Int)), ((1 : Int), (0 : Int), ([105, 110, 112, 117, 116] : List UInt8), ([] : List qAD), ([] : List UInt8), (0 : Int), ([] : List Int))]
instance (priority := 5000) ZO_new : FnM BA 114 [.str [100, 105, 118]] [] True (.loc 0 0) [(0, .box [.own 1, .own 2, .nils, .int .i64 5, .int .i64 0, .int .i64 0, .int .i64 0, .int .i64 0, .bool false, .bool false, .str [100, 105, 118]]), (1, .own qAC [((0 : Int), (0 : Int), ([] : List UInt8), ([] : List qAD), ([] : List UInt8), (-1 : Int), ([1] : List Int)), ((1 : Int), (0 : Int), ([104, 116, 109, 108] : List UInt8), ([] : List qAD), ([] : List UInt8), (0 : Int), ([] : List Int))]), (2, .own qAI [1])] := by
 refine FnM.intro (N := 34) [0, 2, 3, 4, 10] [] 0 Tryz.call114 Tryz.func114 rfl rfl (by kernel_rfl) (fun hpre => ?_)
 repeat' ((conv => whnf);first|(with_reducible first|rfl|exact qAH|exact qAG)|exact True.intro|(intro hq;first|(exfalso;revert hq;decide +kernel)|clear hq|skip)|refine WA ?_ ?_|refine WF ?_|refine W1 rfl ?_ ?_|refine W2 rfl ?_ ?_|refine W3 rfl ?_ ?_|refine W4 ?_ ?_|refine W5 rfl ?_ ?_|refine W6 ?_ ?_|refine WN ?_|refine X1 (W1 rfl ?_ ?_)|refine X1 (W2 rfl ?_ ?_)|refine X2 (W7 rfl ?_ ?_)|refine X3 (W7 rfl ?_ ?_)|refine X4 (W7 rfl ?_ ?_)|refine X5 (W7 rfl ?_ ?_)|refine X7 (by conv => lhs;cbv) rfl ?_|refine X8 (by conv => lhs;cbv) ?_|refine LoopStop.ug 500 ?_|refine ZStop.dir ?_|(refine Ob.mk ?_;decide +kernel))
 all_goals (first | rfl | decide +kernel)
instance (priority := 5000) ZO_run : FnM BA 115 [.loc 0 0, .str (60 :: 102 :: 111 :: 114 :: 109 :: 32 :: 105 :: 100 :: 61 :: 102 :: 62 :: 60 :: 105 :: 110 :: 112 :: 117 :: 116 :: 62 :: 60 :: 112 :: 62 :: 60 :: 47 :: 112 :: 62 :: 60 :: 47 :: 102 :: 111 :: 114 :: 109 :: 62 :: 60 :: 105 :: 110 :: 112 :: 117 :: 116 :: 32 :: 102 :: 111 :: 114 :: 109 :: 61 :: 102 :: 62 :: 60 :: 105 :: 110 :: 112 :: 117 :: 116 :: 32 :: 102 :: 111 :: 114 :: 109 :: 61 :: 103 :: 62 :: 60 :: 105 :: 110 :: 112 :: 117 :: 116 :: 62 :: [])] [(0, .box [.own 1, .own 2, .nils, .int .i64 5, .int .i64 0, .int .i64 0, .int .i64 0, .int .i64 0, .bool false, .bool false, .str [100, 105, 118]]), (1, .own qAC [((0 : Int), (0 : Int), ([] : List UInt8), ([] : List qAD), ([] : List UInt8), (-1 : Int), ([1] : List Int)), ((1 : Int), (0 : Int), ([104, 116, 109, 108] : List UInt8), ([] : List qAD), ([] : List UInt8), (0 : Int), ([] : List Int))]), (2, .own qAI [1])] True (.tup []) [(0, .box [.own 1, .own 3, .nils, .int .i64 5, .int .i64 0, .int .i64 0, .int .i64 0, .int .i64 0, .bool false, .bool false, .str [100, 105, 118]]), (1, .own qAC ZO_N), (3, .own qAI [1])] := by
 refine FnM.intro (N := 46) [0, 1, 4, 5, 6, 7, 35, 42, 44, 45] [] 3 Tryz.call115 Tryz.func115 rfl rfl (by kernel_rfl) (fun hpre => ?_)
 repeat' ((conv => whnf);first|(with_reducible first|rfl|exact qAH|exact qAG)|exact True.intro|(intro hq;first|(exfalso;revert hq;decide +kernel)|clear hq|skip)|refine WA ?_ ?_|refine WF ?_|refine W1 rfl ?_ ?_|refine W2 rfl ?_ ?_|refine W3 rfl ?_ ?_|refine W4 ?_ ?_|refine W5 rfl ?_ ?_|refine W6 ?_ ?_|refine WN ?_|refine X1 (W1 rfl ?_ ?_)|refine X1 (W2 rfl ?_ ?_)|refine X2 (W7 rfl ?_ ?_)|refine X3 (W7 rfl ?_ ?_)|refine X4 (W7 rfl ?_ ?_)|refine X5 (W7 rfl ?_ ?_)|refine X7 (by conv => lhs;cbv) rfl ?_|refine X8 (by conv => lhs;cbv) ?_|refine LoopStop.ug 500 ?_|refine ZStop.dir ?_|(refine Ob.mk ?_;decide +kernel))
 all_goals (first | rfl | decide +kernel)
theorem qW4 : qTD ZO_N ∧ subT ZO_N 1 = ZO_T := qbZ (f := 100) (by decide +kernel)
instance ZO_fragA : FnM BA 59 [.str (60 :: 102 :: 111 :: 114 :: 109 :: 32 :: 105 :: 100 :: 61 :: 102 :: 62 :: 60 :: 105 :: 110 :: 112 :: 117 :: 116 :: 62 :: 60 :: 112 :: 62 :: 60 :: 47 :: 112 :: 62 :: 60 :: 47 :: 102 :: 111 :: 114 :: 109 :: 62 :: 60 :: 105 :: 110 :: 112 :: 117 :: 116 :: 32 :: 102 :: 111 :: 114 :: 109 :: 61 :: 102 :: 62 :: 60 :: 105 :: 110 :: 112 :: 117 :: 116 :: 32 :: 102 :: 111 :: 114 :: 109 :: 61 :: 103 :: 62 :: 60 :: 105 :: 110 :: 112 :: 117 :: 116 :: 62 :: []), .str [100, 105, 118]] [] True (.agg [.rd qAC ZO_T]) [] := by
 refine FnM.intro (N := 28) [0, 1, 4, 5, 7] [(5, [0, 0, 0, 1, 0, 0, 0, 0, 1, 1, 1, 1, 1, 1, 3, 3]), (5000005, [5])] 0 Tryz.call59 Tryz.func59 rfl rfl (by kernel_rfl) (fun hpre => ?_)
 repeat' ((conv => whnf);first|(with_reducible first|rfl|exact qAH|exact qAG)|exact True.intro|(intro hq;first|(exfalso;revert hq;decide +kernel)|clear hq|skip)|refine WA ?_ ?_|refine WF ?_|refine W1 rfl ?_ ?_|refine W2 rfl ?_ ?_|refine W3 rfl ?_ ?_|refine W4 ?_ ?_|refine W5 rfl ?_ ?_|refine W6 ?_ ?_|refine WN ?_|refine X1 (W1 rfl ?_ ?_)|refine X1 (W2 rfl ?_ ?_)|refine X2 (W7 rfl ?_ ?_)|refine X3 (W7 rfl ?_ ?_)|refine X4 (W7 rfl ?_ ?_)|refine X5 (W7 rfl ?_ ?_)|refine X7 (by conv => lhs;cbv) rfl ?_|refine X8 (by conv => lhs;cbv) ?_|refine LoopStop.ug 500 ?_|refine ZStop.dir ?_|(refine Ob.mk ?_;decide +kernel))
 all_goals (first | exact Ob.mk qW4.1 | exact qW4.1 | exact congrArg (fun l => SV.rd qAC l) qW4.2 | rfl | decide +kernel | trace_state)
instance ZO_frag : Fn BB 59 [.str (60 :: 102 :: 111 :: 114 :: 109 :: 32 :: 105 :: 100 :: 61 :: 102 :: 62 :: 60 :: 105 :: 110 :: 112 :: 117 :: 116 :: 62 :: 60 :: 112 :: 62 :: 60 :: 47 :: 112 :: 62 :: 60 :: 47 :: 102 :: 111 :: 114 :: 109 :: 62 :: 60 :: 105 :: 110 :: 112 :: 117 :: 116 :: 32 :: 102 :: 111 :: 114 :: 109 :: 61 :: 102 :: 62 :: 60 :: 105 :: 110 :: 112 :: 117 :: 116 :: 32 :: 102 :: 111 :: 114 :: 109 :: 61 :: 103 :: 62 :: 60 :: 105 :: 110 :: 112 :: 117 :: 116 :: 62 :: []), .str [100, 105, 118]] True (.agg [.rd qAC ZO_T]) :=
 ⟨ZO_fragA.call, ZO_fragA.ok⟩
end Go.Vc

namespace Go.Vc
open Go.Proofs
open Go.Vc.W
set_option maxRecDepth 10000
set_option maxHeartbeats 4000000
theorem qIM {t : List qAF} {m : Int} (h : qBG t m = true) (i : Int) (hi : 0 ≤ i ∧ i < t.length) : qIN (nd t i) = true := by
 unfold qBG at h
 rw [Bool.and_eq_true, List.all_eq_true] at h
 refine h.2 _ ?_
 have e : nd t i = t[i.toNat]'(by omega) := by unfold nd; rw [List.getD_eq_getElem?_getD, List.getElem?_eq_getElem (by omega)]; rfl
 rw [e]; exact List.getElem_mem _
theorem qTX {t : List qAF} {m : Int} (h : qBG t m = true) : (t.length : Int) ≤ m := by
 unfold qBG at h; rw [Bool.and_eq_true, decide_eq_true_eq] at h; exact h.1
theorem qCD {n : qAF} (h : qIN n = true) : n.2.2.1.length ≤ 40 ∧ n.2.2.2.1.length ≤ 14 ∧ n.2.2.2.2.1.length ≤ 300 ∧ n.kids.length ≤ 60 := by
 unfold qIN qHV at h
 simp only [Bool.and_eq_true, decide_eq_true_eq] at h
 omega
abbrev idT : List UInt8 := [105, 100]
def qC1 (t : List qAF) : List Int := natI (fin t).L
theorem qJI (t : List qAF) (k : Nat) (h : k < (qC1 t).length) (d0 : Int) : 0 ≤ (qC1 t).getD k d0 ∧ (qC1 t).getD k d0 < t.length := by
 have d := qG7 (qAB t) t.length
 unfold qC1 natI at *
 rw [List.length_map] at h
 rw [List.getD_eq_getElem?_getD, List.getElem?_map, List.getElem?_eq_getElem h]
 have := d.lt _ (List.getElem_mem h)
 show 0 ≤ ((fin t).L[k] : Int) ∧ ((fin t).L[k] : Int) < t.length
 have h2 : (fin t).L[k] < t.length := this
 omega
theorem qPN {p : Int → Bool} (L : List Int) (j : Nat) (h : j < L.length) (d : Int) : (L.take (j + 1)).filter p = (L.take j).filter p ++ (if p (L.getD j d) = true then [L.getD j d] else []) := by
 rw [List.take_succ_eq_append_getElem h, List.filter_append]
 have : L.getD j d = L[j] := by simp [List.getD, h]
 rw [this]
 congr 1
 simp [List.filter_cons]
theorem filt_t {p : Int → Bool} {L : List Int} {j : Nat} (h : j < L.length) (d : Int) (hp : p (L.getD j d) = true) : (L.take (j + 1)).filter p = (L.take j).filter p ++ [L.getD j d] := by rw [qPN L j h d, if_pos hp]
theorem filt_f {p : Int → Bool} {L : List Int} {j : Nat} (h : j < L.length) (d : Int) (hp : p (L.getD j d) = false) : (L.take (j + 1)).filter p = (L.take j).filter p := by rw [qPN L j h d, if_neg (by rw [hp]; decide), List.append_nil]
end Go.Vc

namespace Go.Vc
open Go.Proofs
set_option maxRecDepth 10000
set_option maxHeartbeats 4000000
theorem qM0 {a b : List Int} {i : Nat} (ha : i < a.length) (hb : i < b.length) (h : a.take i = b.take i) (h2 : a.getD i 0 = b.getD i 0) : a.take (i+1) = b.take (i+1) := by
 rw [take_snoc a i 0 ha, take_snoc b i 0 hb, h, h2]
instance aEq (a b : List Int) : Fn BB 24 [.rd qAI a, .rd qAI b] True (.bool (a == b)) := by
 refine Fn.intro (N := 26) [0, 1, 4, 5, 10, 12, 13, 14, 24] [(6, [0, 0, 1, 1, 0, 0, 1, 1, 3])] Tryz.call24 Tryz.func24 rfl rfl (by kernel_rfl) (fun hpre => ?_)
 repeat' ((conv => whnf);first|(with_reducible first|rfl|exact qAH|exact qAG)|exact True.intro|intro _|refine WA ?_ ?_|refine WF ?_|refine W1 rfl ?_ ?_|refine W2 rfl ?_ ?_|refine W3 rfl ?_ ?_|refine W4 ?_ ?_|refine W5 rfl ?_ ?_|refine W6 ?_ ?_|refine WN ?_|refine X1 (W1 rfl ?_ ?_)|refine X1 (W2 rfl ?_ ?_)|refine X2 (W7 rfl ?_ ?_)|refine X3 (W7 rfl ?_ ?_)|refine X4 (W7 rfl ?_ ?_)|refine X5 (W7 rfl ?_ ?_))
 all_goals (try (conv => whnf))
 all_goals (try first|exact obA|refine Ob.mk ?_)
 ·rename_i h
  have : ¬ a = b := by rintro rfl; simp at h
  simp [this]
 ·refine LoopStop.mk (α := Nat) (fun i => [(13, .int .i64 i)]) (fun i => []) 0 (fun i => i ≤ a.length ∧ a.take i = b.take i) (fun i => a.length - i) 0 (by simp) ?_ (fun i hi => ?_)
  ·repeat' ((conv => whnf);first|(with_reducible first|rfl|exact qAH|exact qAG)|exact True.intro|intro _|refine WA ?_ ?_|refine WF ?_|refine W1 rfl ?_ ?_|refine W2 rfl ?_ ?_|refine W3 rfl ?_ ?_|refine W4 ?_ ?_|refine W5 rfl ?_ ?_|refine W6 ?_ ?_|refine WN ?_|refine X1 (W1 rfl ?_ ?_)|refine X1 (W2 rfl ?_ ?_)|refine X2 (W7 rfl ?_ ?_)|refine X3 (W7 rfl ?_ ?_)|refine X4 (W7 rfl ?_ ?_)|refine X5 (W7 rfl ?_ ?_))
   all_goals (try (conv => whnf))
   all_goals (try rfl)
  ·repeat' ((conv => whnf);first|(with_reducible first|rfl|exact qAH|exact qAG)|exact True.intro|intro _|refine WA ?_ ?_|refine WF ?_|refine W1 rfl ?_ ?_|refine W2 rfl ?_ ?_|refine W3 rfl ?_ ?_|refine W4 ?_ ?_|refine W5 rfl ?_ ?_|refine W6 ?_ ?_|refine WN ?_|refine X1 (W1 rfl ?_ ?_)|refine X1 (W2 rfl ?_ ?_)|refine X2 (W7 rfl ?_ ?_)|refine X3 (W7 rfl ?_ ?_)|refine X4 (W7 rfl ?_ ?_)|refine X5 (W7 rfl ?_ ?_))
   all_goals (try (conv => whnf))
   all_goals (try first|exact obA|refine Ob.mk ?_)
   all_goals (try simp only [ZA,ZB,ZC,ZD,ZE,ZF,ZG,ZH,ZI,ZJ,ZK,ZL,ZM,ZN,ZO,Int.toNat_natCast,UInt8.ofNat_toNat,cast_eq] at *)
   all_goals (try omega)
   ·rename_i h
    have : ¬ a = b := by rintro rfl; exact h rfl
    simp [this]
   ·have h : i < a.length := by omega
    have h' : i < b.length := by omega
    refine Rnd.mk ⟨i + 1, ?_, ?_, ?_⟩
    ·exact ⟨h, qM0 h h' hi.2 ‹_›⟩
    ·omega
    ·all_goals exact vcA
   ·have e : i = a.length := by omega
    subst e
    have h2 := hi.2
    have h3 : b.length ≤ a.length := by omega
    rw [List.take_of_length_le (Nat.le_refl _), List.take_of_length_le h3] at h2
    rw [h2]; simp
end Go.Vc

namespace Go.Vc
open Go.Proofs
open Go.Vc.W
set_option maxRecDepth 10000
set_option maxHeartbeats 4000000
def valT (t : List qAF) (i : Int) (nm : List UInt8) : List UInt8 := if 0 ≤ i ∧ i < t.length then getV (nd t i).2.2.2.1 nm else []
def qHD (el nm v : List UInt8) (n : qAF) : Bool := n.1 == 1 && ((el == []) || (n.2.1 == 0 && n.2.2.1 == el)) && (getV n.2.2.2.1 nm == v)
def qOS (t : List qAF) (el nm v : List UInt8) : Int := if v = [] then 0 else ((qC1 t).find? fun i => qHD el nm v (nd t i)).getD 0
instance iValue (t : List qAF) (i : Int) (nm : List UInt8) : Fn BB 27 [.agg [.rd qAC t], .int .i64 i, .str nm] (qBG t 45 = true) (.str (valT t i nm)) := by
 refine Fn.intro (N := 30) [0, 1, 2, 3, 6, 7, 17] [] Tryz.call27 Tryz.func27 rfl rfl (by kernel_rfl) (fun hpre => ?_)
 have ht : (decide (i < 0) || decide (i ≥ (t.length : Int))) = true → valT t i nm = [] := fun h => by
  simp only [Bool.or_eq_true, decide_eq_true_eq] at h
  unfold valT; rw [if_neg (by omega)]
 have hf : (decide (i < 0) || decide (i ≥ (t.length : Int))) = false → (0 ≤ i ∧ i < t.length) ∧ valT t i nm = getV (nd t i).2.2.2.1 nm := fun h => by
  simp only [Bool.or_eq_false_iff, decide_eq_false_iff_not] at h
  refine ⟨by omega, ?_⟩
  unfold valT; rw [if_pos (by omega)]
 repeat' ((conv => whnf);first|(with_reducible first|rfl|exact qAH|exact qAG)|exact True.intro|intro _|refine WA ?_ ?_|refine WF ?_|refine W1 rfl ?_ ?_|refine W2 rfl ?_ ?_|refine W3 rfl ?_ ?_|refine W4 ?_ ?_|refine W5 rfl ?_ ?_|refine W6 ?_ ?_|refine WN ?_|refine X1 (W1 rfl ?_ ?_)|refine X1 (W2 rfl ?_ ?_)|refine X2 (W7 rfl ?_ ?_)|refine X3 (W7 rfl ?_ ?_)|refine X4 (W7 rfl ?_ ?_)|refine X5 (W7 rfl ?_ ?_))
 all_goals (try (conv => whnf))
 all_goals (try first|exact obA|refine Ob.mk ?_)
 all_goals (first | exact (ht ‹_›).symm | exact (hf ‹_›).1 | exact (hf ‹_›).2.symm | exact Nat.le_trans (qCD (qIM hpre i (hf ‹_›).1)).2.1 (by decide) | trace_state)
theorem findF {p : Int → Bool} : ∀ {L : List Int} {k : Nat}, k < L.length → (∀ j, j < k → p (L.getD j 0) = false) → p (L.getD k 0) = true → L.find? p = some (L.getD k 0) := by
 intro L
 induction L with
 | nil => intro k h; exact absurd h (Nat.not_lt_zero _)
 | cons a L ih =>
  intro k h h0 h1
  cases k with
  | zero => rw [List.find?_cons]; simp only [List.getD_cons_zero] at *; rw [h1]
  | succ k =>
   have ha := h0 0 (Nat.succ_pos _)
   rw [List.getD_cons_zero] at ha
   rw [List.find?_cons, ha]
   exact ih (Nat.lt_of_succ_lt_succ h) (fun j hj => h0 (j + 1) (Nat.succ_lt_succ hj)) h1
theorem qK1 {p : Int → Bool} {L : List Int} (h0 : ∀ j, j < L.length → p (L.getD j 0) = false) : L.find? p = none := by
 rw [List.find?_eq_none]
 intro x hx
 obtain ⟨j, hj, e⟩ := List.mem_iff_getElem.1 hx
 have := h0 j hj
 rw [List.getD_eq_getElem?_getD, List.getElem?_eq_getElem hj] at this
 simp only [Option.getD_some, e] at this
 rw [this]; decide
theorem qV5 {el nm v : List UInt8} {t : List qAF} {i : Int} (hi : 0 ≤ i ∧ i < t.length) : qHD el nm v (nd t i) = ((nd t i).1 == 1 && (el == [] || (nd t i).2.1 == 0 && (nd t i).2.2.1 == el) && valT t i nm == v) := by
 unfold qHD valT; rw [if_pos hi]
instance iFind (t : List qAF) (el nm v : List UInt8) : Fn BB 87 [.agg [.rd qAC t], .str el, .str nm, .str v] (qBG t 45 = true) (.int .i64 (qOS t el nm v)) := by
 refine Fn.intro (N := 65) [0, 1, 2, 3, 4, 8, 9, 10, 11, 21, 60] [(5, [0, 0, 0, 0, 0, 0, 0, 0, 6, 6]), (6, [0, 1, 1, 1, 1, 1, 1, 1, 1, 1, 1, 1, 1, 1, 1, 1, 1, 1, 1, 1, 1, 1, 1, 1, 1, 1, 1, 3, 3])] Tryz.call87 Tryz.func87 rfl rfl (by kernel_rfl) (fun hpre => ?_)
 have hl := qTX hpre
 repeat' ((conv => whnf);first|(with_reducible first|rfl|exact qAH|exact qAG)|exact True.intro|intro _|refine WA ?_ ?_|refine WF ?_|refine W1 rfl ?_ ?_|refine W2 rfl ?_ ?_|refine W3 rfl ?_ ?_|refine W4 ?_ ?_|refine W5 rfl ?_ ?_|refine W6 ?_ ?_|refine WN ?_|refine X1 (W1 rfl ?_ ?_)|refine X1 (W2 rfl ?_ ?_)|refine X2 (W7 rfl ?_ ?_)|refine X3 (W7 rfl ?_ ?_)|refine X4 (W7 rfl ?_ ?_)|refine X5 (W7 rfl ?_ ?_))
 all_goals (try (conv => whnf))
 all_goals (try first|exact obA|refine Ob.mk ?_)
 refine LoopStop.mk (α := Nat) (fun k => [(10, .int .i64 k)]) (fun _ => []) 30 (fun k => k ≤ (qC1 t).length ∧ (v = [] → k = 0) ∧ ∀ j, j < k → qHD el nm v (nd t ((qC1 t).getD j 0)) = false) (fun k => (qC1 t).length - k) 0 ⟨Nat.zero_le _, fun _ => rfl, fun j hj => absurd hj (Nat.not_lt_zero _)⟩ ?_ (fun k hk => ?_)
 ·all_goals exact vcA
 ·obtain ⟨hk, hk0, hkj⟩ := hk
  by_cases hc : (decide ((k : Int) < ((natI (fin t).L).length : Int)) && !(v == [])) = true
  ·have hc' := hc
   rw [Bool.and_eq_true, decide_eq_true_eq, Bool.not_eq_true'] at hc'
   have hkl : k < (qC1 t).length := Int.ofNat_lt.mp hc'.1
   have hne : ¬ v = [] := fun e => by rw [e] at hc'; exact absurd hc'.2 (by decide)
   have hat : 0 ≤ (natI (fin t).L).getD k qAI.dflt ∧ (natI (fin t).L).getD k qAI.dflt < t.length := qJI t k hkl _
   have hfb := qV5 (el := el) (nm := nm) (v := v) hat
   repeat' ((conv => whnf);first|(with_reducible first|rfl|exact qAH|exact qAG)|exact True.intro|intro _|refine WA ?_ ?_|refine WF ?_|refine W1 rfl ?_ ?_|refine W2 rfl ?_ ?_|refine W3 rfl ?_ ?_|refine W4 ?_ ?_|refine W5 rfl ?_ ?_|refine W6 ?_ ?_|refine WN ?_|refine X1 (W1 rfl ?_ ?_)|refine X1 (W2 rfl ?_ ?_)|refine X2 (W7 rfl ?_ ?_)|refine X3 (W7 rfl ?_ ?_)|refine X4 (W7 rfl ?_ ?_)|refine X5 (W7 rfl ?_ ?_))
   all_goals (try (conv => whnf))
   all_goals (try first|exact obA|refine Ob.mk ?_)
   all_goals (try simp only [Int.toNat_natCast] at *)
   all_goals (try (exact hat))
   ·unfold qOS
    rw [if_neg hne, findF (p := fun i => qHD el nm v (nd t i)) hkl hkj (hfb.trans ‹_›)]
    rfl
   ·refine Rnd.mk ⟨k + 1, ⟨by omega, fun e => absurd e hne, fun j hj => ?_⟩, by omega, ?_⟩
    ·rcases Nat.lt_or_ge j k with q | q
     ·exact hkj j q
     ·have e : j = k := by omega
      rw [e]; exact hfb.trans ‹_›
    ·all_goals exact vcA
   all_goals (exact absurd (hc.symm.trans ‹(decide ((k : Int) < ((natI (fin t).L).length : Int)) && !(v == [])) = false›) (by decide))
  ·have hx : ∀ {p : Prop}, (decide ((k : Int) < ((natI (fin t).L).length : Int)) && !(v == [])) = true → p := fun h => absurd h hc
   have hr : (0 : Int) = qOS t el nm v := by
    unfold qOS
    by_cases hne : v = []
    ·rw [if_pos hne]
    ·rw [if_neg hne]
     have : ¬ (k : Int) < ((natI (fin t).L).length : Int) := fun q => hc (by rw [decide_eq_true q, Bool.true_and, Bool.not_eq_true']; exact beq_eq_false_iff_ne.2 hne)
     rw [qK1 (p := fun i => qHD el nm v (nd t i)) (fun j hj => hkj j (by have h : (qC1 t).length = (natI (fin t).L).length := rfl; omega))]
     rfl
   repeat' ((conv => whnf);first|(with_reducible first|rfl|exact qAH|exact qAG)|exact True.intro|intro _|refine WA ?_ ?_|refine WF ?_|refine W1 rfl ?_ ?_|refine W2 rfl ?_ ?_|refine W3 rfl ?_ ?_|refine W4 ?_ ?_|refine W5 rfl ?_ ?_|refine W6 ?_ ?_|refine WN ?_|refine X1 (W1 rfl ?_ ?_)|refine X1 (W2 rfl ?_ ?_)|refine X2 (W7 rfl ?_ ?_)|refine X3 (W7 rfl ?_ ?_)|refine X4 (W7 rfl ?_ ?_)|refine X5 (W7 rfl ?_ ?_))
   all_goals (try (conv => whnf))
   all_goals (try first|exact obA|refine Ob.mk ?_)
   all_goals (try exact hx (by assumption))
   all_goals (try (refine Rnd.mk ?_; exact hx (by assumption)))
   all_goals (first | exact hr | trace_state)
def firstT (t : List qAF) (v : List UInt8) : Int := qOS t [] idT v
instance iFirst (t : List qAF) (v : List UInt8) : Fn BB 28 [.agg [.rd qAC t], .str v] (qBG t 45 = true) (.int .i64 (firstT t v)) := by
 refine Fn.intro (N := 8) [0, 1, 2, 4] [] Tryz.call28 Tryz.func28 rfl rfl (by kernel_rfl) (fun hpre => ?_)
 repeat' ((conv => whnf);first|(with_reducible first|rfl|exact qAH|exact qAG)|exact True.intro|intro _|refine WA ?_ ?_|refine WF ?_|refine W1 rfl ?_ ?_|refine W2 rfl ?_ ?_|refine W3 rfl ?_ ?_|refine W4 ?_ ?_|refine W5 rfl ?_ ?_|refine W6 ?_ ?_|refine WN ?_|refine X1 (W1 rfl ?_ ?_)|refine X1 (W2 rfl ?_ ?_)|refine X2 (W7 rfl ?_ ?_)|refine X3 (W7 rfl ?_ ?_)|refine X4 (W7 rfl ?_ ?_)|refine X5 (W7 rfl ?_ ?_))
 all_goals (try (conv => whnf))
 all_goals (try first|exact obA|refine Ob.mk ?_)
 all_goals (first | exact hpre | rfl)
end Go.Vc

namespace Go.Vc
open Go.Proofs
open Go.Vc.W
set_option maxRecDepth 10000
set_option maxHeartbeats 4000000
def elB (t : List qAF) (i : Int) : Bool := (nd t i).1 == 1
def qDN (t : List qAF) : List Int := (qC1 t).filter (elB t)
def nodeSV (n : qAF) : SV := .agg [.int .i64 n.1, .int .i64 n.2.1, .str n.2.2.1, .rd qAT n.2.2.2.1, .str n.2.2.2.2.1, .int .i64 n.2.2.2.2.2.1, .rd qAI n.2.2.2.2.2.2]
theorem qZ4 {p : Int → Bool} {L : List Int} {k : Nat} (h : k < L.length) (d : Int) (hp : p (L.getD k d) = true) : (L.filter p).getD ((L.take k).filter p).length d = L.getD k d ∧ ((L.take k).filter p).length < (L.filter p).length := by
 have e : L = L.take k ++ (L.getD k d :: L.drop (k + 1)) := by
  have h2 : L.getD k d = L[k] := by simp [List.getD, h]
  rw [h2, List.getElem_cons_drop, List.take_append_drop]
 have e2 : L.filter p = (L.take k).filter p ++ (L.getD k d :: (L.drop (k + 1)).filter p) := by
  conv => lhs; rw [e]
  rw [List.filter_append, List.filter_cons, if_pos hp]
 rw [e2]
 constructor
 ·rw [List.getD_eq_getElem?_getD, List.getElem?_append_right (Nat.le_refl _), Nat.sub_self]; rfl
 ·rw [List.length_append, List.length_cons]; omega
instance jElems (t : List qAF) : Fn BB 176 [.agg [.rd qAC t]] True (.fn 207 [.el (.sl qAC) [t] 0 0]) := by
 refine Fn.intro (N := 4) [0, 1, 2] [] Tryz.call176 Tryz.func176 rfl rfl (by kernel_rfl) (fun hpre => ?_)
 all_goals exact vcA
instance jListY (y : YS) (l : List qAF) : Fn (BB.withY y) 64 [.agg [.rd qAC l]] (l.length ≤ 45) (.rd qAI (natI (fin l).L)) := ⟨(oList l).call, (oList l).ok⟩
instance jIt (t : List qAF) : It BB 207 [.el (.sl qAC) [t] 0 0] (qBG t 45 = true) (qDN t).length (fun k => [.int .i64 ((qDN t).getD k qAI.dflt), nodeSV (nd t ((qDN t).getD k qAI.dflt))]) := by
 refine It.intro (N := 29) [0, 1, 4, 5, 7, 8, 9, 10, 27] [] 0 Tryz.call207 Tryz.func207 rfl rfl (by kernel_rfl) (fun hpre yl => ?_)
 have hl := qTX hpre
 repeat' ((conv => whnf);first|(with_reducible first|rfl|exact qAH|exact qAG)|exact True.intro|intro _|refine WA ?_ ?_|refine WF ?_|refine W1 rfl ?_ ?_|refine W2 rfl ?_ ?_|refine W3 rfl ?_ ?_|refine W4 ?_ ?_|refine W5 rfl ?_ ?_|refine W6 ?_ ?_|refine WN ?_|refine X1 (W1 rfl ?_ ?_)|refine X1 (W2 rfl ?_ ?_)|refine X2 (W7 rfl ?_ ?_)|refine X3 (W7 rfl ?_ ?_)|refine X4 (W7 rfl ?_ ?_)|refine X5 (W7 rfl ?_ ?_))
 all_goals (try (conv => whnf))
 all_goals (try simp only [List.getD_cons_zero] at *)
 all_goals (try first|exact obA|refine Ob.mk ?_)
 refine LoopStop.mk (α := Nat) (fun k => [(9, .int .i64 k)]) (fun k => [(GID, .gh (some (((qC1 t).take k).filter (elB t)).length))]) 30 (fun k => k ≤ (qC1 t).length) (fun k => (qC1 t).length - k) 0 (Nat.zero_le _) ?_ (fun k hk => ?_)
 ·all_goals exact vcA
 ·by_cases hkl : k < (qC1 t).length
  ·have hat : 0 ≤ (natI (fin t).L).getD k qAI.dflt ∧ (natI (fin t).L).getD k qAI.dflt < t.length := qJI t k hkl _
   have fT := filt_t (p := elB t) (L := natI (fin t).L) hkl qAI.dflt
   have fF := filt_f (p := elB t) (L := natI (fin t).L) hkl qAI.dflt
   have fG := qZ4 (p := elB t) (L := natI (fin t).L) hkl qAI.dflt
   repeat' ((conv => whnf);first|(with_reducible first|rfl|exact qAH|exact qAG)|exact True.intro|intro _|refine WA ?_ ?_|refine WF ?_|refine W1 rfl ?_ ?_|refine W2 rfl ?_ ?_|refine W3 rfl ?_ ?_|refine W4 ?_ ?_|refine W5 rfl ?_ ?_|refine W6 ?_ ?_|refine WN ?_|refine X1 (W1 rfl ?_ ?_)|refine X1 (W2 rfl ?_ ?_)|refine X2 (W7 rfl ?_ ?_)|refine X3 (W7 rfl ?_ ?_)|refine X4 (W7 rfl ?_ ?_)|refine X5 (W7 rfl ?_ ?_))
   all_goals (try (conv => whnf))
   all_goals (try simp only [List.getD_cons_zero] at *)
   all_goals (try first|exact obA|refine Ob.mk ?_)
   all_goals (try simp only [Int.toNat_natCast] at *)
   all_goals (try (exact hat))
   all_goals (try (have hq := fT (by assumption)))
   all_goals (try (have hg := fG (by assumption)))
   all_goals (try (have hq := fF (by assumption)))
   all_goals (try (exact hg.2))
   all_goals (try (exact hg.1.symm))
   all_goals (try (have hn : (qDN t).getD (List.filter (elB t) (List.take k (qC1 t))).length qAI.dflt = (natI (fin t).L).getD k qAI.dflt := hg.1; rw [hn]; done))
   all_goals (try (have hql : (List.filter (elB t) (List.take (k + 1) (qC1 t))).length = (List.filter (elB t) (List.take k (qC1 t))).length + 1 := by have h := congrArg List.length hq; rw [List.length_append] at h; exact h))
   all_goals (try (refine Rnd.mk ⟨k + 1, by omega, by omega, ?_⟩))
   repeat' ((conv => whnf);first|(with_reducible first|rfl|exact qAH|exact qAG)|exact True.intro|intro _|refine WA ?_ ?_|refine WF ?_|refine W1 rfl ?_ ?_|refine W2 rfl ?_ ?_|refine W3 rfl ?_ ?_|refine W4 ?_ ?_|refine W5 rfl ?_ ?_|refine W6 ?_ ?_|refine WN ?_|refine X1 (W1 rfl ?_ ?_)|refine X1 (W2 rfl ?_ ?_)|refine X2 (W7 rfl ?_ ?_)|refine X3 (W7 rfl ?_ ?_)|refine X4 (W7 rfl ?_ ?_)|refine X5 (W7 rfl ?_ ?_))
   all_goals (try (conv => whnf))
   all_goals (try first|exact obA|refine Ob.mk ?_)
   all_goals (first | exact absurd ‹(true && !true) = true› (by decide) | exact absurd ‹(true && !false) = false› (by decide) | exact absurd (Int.ofNat_lt.mpr hkl) (of_decide_eq_false ‹decide ((k : Int) < ((natI (fin t).L).length : Int)) = false›) | (rw [hql]; done) | exact congrArg (fun l : List Int => Chunk.gh (some l.length)) hq.symm | rfl | trace_state)
  ·have e : k = (natI (fin t).L).length := by have h : (qC1 t).length = (natI (fin t).L).length := rfl; omega
   have hx : ∀ {p : Prop}, decide ((k : Int) < ((natI (fin t).L).length : Int)) = true → p := fun h => by have h := of_decide_eq_true h; omega
   have hE : (List.filter (elB t) (List.take k (qC1 t))).length = (qDN t).length := by
    rw [e]; show (List.filter (elB t) (List.take (natI (fin t).L).length (natI (fin t).L))).length = (List.filter (elB t) (natI (fin t).L)).length; rw [List.take_length]
   repeat' ((conv => whnf);first|(with_reducible first|rfl|exact qAH|exact qAG)|exact True.intro|intro _|refine WA ?_ ?_|refine WF ?_|refine W1 rfl ?_ ?_|refine W2 rfl ?_ ?_|refine W3 rfl ?_ ?_|refine W4 ?_ ?_|refine W5 rfl ?_ ?_|refine W6 ?_ ?_|refine WN ?_|refine X1 (W1 rfl ?_ ?_)|refine X1 (W2 rfl ?_ ?_)|refine X2 (W7 rfl ?_ ?_)|refine X3 (W7 rfl ?_ ?_)|refine X4 (W7 rfl ?_ ?_)|refine X5 (W7 rfl ?_ ?_))
   all_goals (try (conv => whnf))
   all_goals (try simp only [List.getD_cons_zero] at *)
   all_goals (try first|exact obA|refine Ob.mk ?_)
   all_goals (try exact hx (by assumption))
   all_goals (try (refine Rnd.mk ?_; exact hx (by assumption)))
   all_goals (first | exact hE | trace_state)
def hasB (l : List qAD) (nm v : List UInt8) : Bool := !(v == []) && (getV l nm == v)
instance jHas (k s : Int) (nn : List UInt8) (at_ : List qAD) (d : List UInt8) (up : Int) (kids : List Int) (nm v : List UInt8) :
  Fn BB 143 [.agg [.int .i64 k, .int .i64 s, .str nn, .rd qAT at_, .str d, .int .i64 up, .rd qAI kids], .str nm, .str v] (at_.length ≤ 100000) (.bool (hasB at_ nm v)) := by
 refine Fn.intro (N := 23) [0, 1, 2, 3, 6, 7] [] Tryz.call143 Tryz.func143 rfl rfl (by kernel_rfl) (fun hpre => ?_)
 repeat' ((conv => whnf);first|(with_reducible first|rfl|exact qAH|exact qAG)|exact True.intro|intro _|refine WA ?_ ?_|refine WF ?_|refine W1 rfl ?_ ?_|refine W2 rfl ?_ ?_|refine W3 rfl ?_ ?_|refine W4 ?_ ?_|refine W5 rfl ?_ ?_|refine W6 ?_ ?_|refine WN ?_|refine X1 (W1 rfl ?_ ?_)|refine X1 (W2 rfl ?_ ?_)|refine X2 (W7 rfl ?_ ?_)|refine X3 (W7 rfl ?_ ?_)|refine X4 (W7 rfl ?_ ?_)|refine X5 (W7 rfl ?_ ?_))
 all_goals (try (conv => whnf))
 all_goals (try first|exact obA|refine Ob.mk ?_)
 all_goals (try rfl)
 all_goals trace_state
instance jFirst1 (k s : Int) (nn : List UInt8) (at_ : List qAD) (d : List UInt8) (up : Int) (kids : List Int) (id : List UInt8) :
  FnM BB 142 [.agg [.int .i64 k, .int .i64 s, .str nn, .rd qAT at_, .str d, .int .i64 up, .rd qAI kids], .loc 0 0] [(0, .box [.str id])] (at_.length ≤ 100000) (.bool (hasB at_ idT id)) [(0, .box [.str id])] := by
 refine FnM.intro (N := 7) [0, 1, 2, 3] [] 1 Tryz.call142 Tryz.func142 rfl rfl (by kernel_rfl) (fun hpre => ?_)
 repeat' ((conv => whnf);first|(with_reducible first|rfl|exact qAH|exact qAG)|exact True.intro|intro _|refine WA ?_ ?_|refine WF ?_|refine W1 rfl ?_ ?_|refine W2 rfl ?_ ?_|refine W3 rfl ?_ ?_|refine W4 ?_ ?_|refine W5 rfl ?_ ?_|refine W6 ?_ ?_|refine WN ?_|refine X1 (W1 rfl ?_ ?_)|refine X1 (W2 rfl ?_ ?_)|refine X2 (W7 rfl ?_ ?_)|refine X3 (W7 rfl ?_ ?_)|refine X4 (W7 rfl ?_ ?_)|refine X5 (W7 rfl ?_ ?_))
 all_goals (try (conv => whnf))
 all_goals (try first|exact obA|refine Ob.mk ?_)
 all_goals (try rfl)
 all_goals trace_state
theorem qIQ (t : List qAF) (id : List UInt8) : firstT t id = ((qDN t).find? fun i => hasB (nd t i).2.2.2.1 idT id).getD 0 := by
 unfold firstT qOS qDN
 by_cases h : id = []
 ·rw [if_pos h]
  have : ((qC1 t).filter (elB t)).find? (fun i => hasB (nd t i).2.2.2.1 idT id) = none := by
   rw [List.find?_eq_none]; intro x _; unfold hasB; rw [h]; simp
  rw [this]; rfl
 ·rw [if_neg h, List.find?_filter]
  congr 2
  funext i
  unfold qHD hasB elB
  rw [beq_eq_false_iff_ne.2 h]
  cases ((nd t i).1 == 1) <;> cases (getV (nd t i).2.2.2.1 idT == id) <;> rfl
instance jFirst (t : List qAF) (id : List UInt8) : FnM BB 141 [.agg [.rd qAC t], .fn 142 [.loc 0 0]] [(0, .box [.str id])] (qBG t 45 = true) (.int .i64 (firstT t id)) [(0, .box [.str id])] := by
 refine FnM.intro (N := 15) [0, 1, 2, 3, 4, 5, 6, 8, 9, 10, 13] [] 1 Tryz.call141 Tryz.func141 rfl rfl (by kernel_rfl) (fun hpre => ?_)
 have hl := qTX hpre
 repeat' ((conv => whnf);first|(with_reducible first|rfl|exact qAH|exact qAG)|exact True.intro|intro _|refine WA ?_ ?_|refine WF ?_|refine W1 rfl ?_ ?_|refine W2 rfl ?_ ?_|refine W3 rfl ?_ ?_|refine W4 ?_ ?_|refine W5 rfl ?_ ?_|refine W6 ?_ ?_|refine WN ?_|refine X1 (W1 rfl ?_ ?_)|refine X1 (W2 rfl ?_ ?_)|refine X2 (W7 rfl ?_ ?_)|refine X3 (W7 rfl ?_ ?_)|refine X4 (W7 rfl ?_ ?_)|refine X5 (W7 rfl ?_ ?_))
 all_goals (try (conv => whnf))
 all_goals (try first|exact obA|refine Ob.mk ?_)
 have hel : ∀ i, i < (qDN t).length → 0 ≤ (qDN t).getD i qAI.dflt ∧ (qDN t).getD i qAI.dflt < t.length := fun i hi => by
  have hm : (qDN t).getD i qAI.dflt ∈ qC1 t := by
   have : (qDN t).getD i qAI.dflt ∈ qDN t := by rw [List.getD_eq_getElem?_getD, List.getElem?_eq_getElem hi]; exact List.getElem_mem _
   exact (List.mem_filter.1 this).1
  obtain ⟨j, hj, e⟩ := List.mem_iff_getElem.1 hm
  have := qJI t j hj 0
  rw [List.getD_eq_getElem?_getD, List.getElem?_eq_getElem hj] at this
  rw [← e]; exact this
 refine RangeStop.mkF (α := Unit) ⟨hpre⟩ rfl (fun _ => [(1, .box [.und])]) 30 (fun i _ => ∀ j, j < i → hasB (nd t ((qDN t).getD j 0)).2.2.2.1 idT id = false) () (fun j hj => absurd hj (Nat.not_lt_zero _)) ?_ (fun i k hC hi => ?_) (fun k hC => ?_)
 ·all_goals exact vcA
 ·repeat' ((conv => whnf);first|(with_reducible first|rfl|exact qAH|exact qAG)|exact True.intro|intro _|refine WA ?_ ?_|refine WF ?_|refine W1 rfl ?_ ?_|refine W2 rfl ?_ ?_|refine W3 rfl ?_ ?_|refine W4 ?_ ?_|refine W5 rfl ?_ ?_|refine W6 ?_ ?_|refine WN ?_|refine X1 (W1 rfl ?_ ?_)|refine X1 (W2 rfl ?_ ?_)|refine X2 (W7 rfl ?_ ?_)|refine X3 (W7 rfl ?_ ?_)|refine X4 (W7 rfl ?_ ?_)|refine X5 (W7 rfl ?_ ?_))
  all_goals (try (conv => whnf))
  all_goals (try first|exact obA|refine Ob.mk ?_)
  ·exact Nat.le_trans (qCD (qIM hpre _ (hel i hi))).2.1 (by decide)
  ·rw [qIQ, findF (p := fun i => hasB (nd t i).2.2.2.1 idT id) hi hC (by assumption)]; rfl
  ·refine Rnd.mk ⟨(), fun j hj => ?_, ?_⟩
   ·rcases Nat.lt_or_ge j i with q | q
    ·exact hC j q
    ·have e : j = i := by omega
     rw [e]; assumption
   ·all_goals exact vcA
 ·repeat' ((conv => whnf);first|(with_reducible first|rfl|exact qAH|exact qAG)|exact True.intro|intro _|refine WA ?_ ?_|refine WF ?_|refine W1 rfl ?_ ?_|refine W2 rfl ?_ ?_|refine W3 rfl ?_ ?_|refine W4 ?_ ?_|refine W5 rfl ?_ ?_|refine W6 ?_ ?_|refine WN ?_|refine X1 (W1 rfl ?_ ?_)|refine X1 (W2 rfl ?_ ?_)|refine X2 (W7 rfl ?_ ?_)|refine X3 (W7 rfl ?_ ?_)|refine X4 (W7 rfl ?_ ?_)|refine X5 (W7 rfl ?_ ?_))
  all_goals (try (conv => whnf))
  all_goals (try first|exact obA|refine Ob.mk ?_)
  all_goals (rw [qIQ, qK1 (p := fun i => hasB (nd t i).2.2.2.1 idT id) hC]; rfl)
instance jFirstI (t : List qAF) (id : List UInt8) : Fn BB 91 [.agg [.rd qAC t], .str id] (qBG t 45 = true) (.int .i64 (firstT t id)) := by
 refine Fn.intro (N := 8) [0, 1, 2, 3, 4] [] Tryz.call91 Tryz.func91 rfl rfl (by kernel_rfl) (fun hpre => ?_)
 repeat' ((conv => whnf);first|(with_reducible first|rfl|exact qAH|exact qAG)|exact True.intro|intro _|refine WA ?_ ?_|refine WF ?_|refine W1 rfl ?_ ?_|refine W2 rfl ?_ ?_|refine W3 rfl ?_ ?_|refine W4 ?_ ?_|refine W5 rfl ?_ ?_|refine W6 ?_ ?_|refine WN ?_|refine X1 (W1 rfl ?_ ?_)|refine X1 (W2 rfl ?_ ?_)|refine X2 (W7 rfl ?_ ?_)|refine X3 (W7 rfl ?_ ?_)|refine X4 (W7 rfl ?_ ?_)|refine X5 (W7 rfl ?_ ?_))
 all_goals (try (conv => whnf))
 all_goals (try first|exact obA|refine Ob.mk ?_)
 all_goals (first | exact hpre | rfl | trace_state)
end Go.Vc

namespace Go.Vc
set_option autoImplicit false
theorem Done.two {n : Nat} {y : St} (d : Done n y) {u v : Nat} (hu : u ∈ y.L) (hv : v ∈ y.L) (h : y.I.getD u (-1) < y.I.getD v (-1)) :
  y.O.getD u (-1) < y.I.getD v (-1) ∨ y.O.getD v (-1) < y.O.getD u (-1) := by
 rcases d.nest u hu v hv h with q | q | q
 ·exact absurd q (d.o hu)
 ·exact .inl q
 ·exact .inr q.2
theorem Good.ne {n : Nat} {y : St} (d : Good n y) {u v : Nat} (hu : u ∈ y.L) (hv : v ∈ y.L) (h : u ≠ v) : y.I.getD u (-1) ≠ y.I.getD v (-1) := by
 have key : ∀ l : List Nat, l.Pairwise (fun a b => y.I.getD a (-1) < y.I.getD b (-1)) → u ∈ l → v ∈ l → y.I.getD u (-1) ≠ y.I.getD v (-1) := by
  intro l
  induction l with
  | nil => intro _ hu; cases hu
  | cons a l ih =>
   intro hp hu hv
   rw [List.pairwise_cons] at hp
   rcases List.mem_cons.1 hu with e | e
   ·rcases List.mem_cons.1 hv with e' | e'
    ·exact absurd (e.trans e'.symm) h
    ·have := hp.1 v e'; rw [← e] at this; omega
   ·rcases List.mem_cons.1 hv with e' | e'
    ·have := hp.1 u e; rw [← e'] at this; omega
    ·exact ih hp.2 e e'
 exact key y.L d.srt hu hv
theorem Done.bnd {n : Nat} {y : St} (d : Done n y) (hn : n ≤ 45) (u : Nat) : -1 ≤ y.I.getD u (-1) ∧ y.I.getD u (-1) ≤ 90 ∧ -1 ≤ y.O.getD u (-1) ∧ y.O.getD u (-1) ≤ 90 := by
 have hm := d.cnt
 have hl := qEO d.nod d.lt
 rw [d.P0] at hm
 simp at hm
 by_cases h : u ∈ y.L
 ·have h1 := d.rI u h
  have h2 := d.rO u h
  have h3 := d.o h
  omega
 ·have := d.out u h
  omega
def qKV (y : St) (i : Nat) (s : List Bool) : Prop := ∀ c : Nat, s.getD c false = true → ∃ u, u < i ∧ u ∈ y.L ∧ (y.I.getD u (-1) = (c : Int) ∨ y.O.getD u (-1) = (c : Int))
theorem qKV.I {n : Nat} {y : St} (d : Done n y) {i : Nat} {s : List Bool} (h : qKV y i s) (hi : i ∈ y.L) : s.getD (y.I.getD i (-1)).toNat false = false := by
 rw [Bool.eq_false_iff]
 intro q
 obtain ⟨u, h1, h2, h3⟩ := h _ q
 have hr := d.rI i hi
 rw [Int.toNat_of_nonneg hr.1] at h3
 rcases h3 with h3 | h3
 ·exact d.ne h2 hi (by omega) h3
 ·exact (d.dis u h2 i hi (d.o h2)).1 h3
theorem qKV.O {n : Nat} {y : St} (d : Done n y) {i : Nat} {s : List Bool} (h : qKV y i s) (hi : i ∈ y.L) : (s.set (y.I.getD i (-1)).toNat true).getD (y.O.getD i (-1)).toNat false = false := by
 have hr := d.rI i hi
 have ho := d.rO i hi
 have ho' := d.o hi
 rw [qAX, if_neg (by rintro ⟨q, _⟩; omega)]
 rw [Bool.eq_false_iff]
 intro q
 obtain ⟨u, h1, h2, h3⟩ := h _ q
 rw [Int.toNat_of_nonneg (by omega)] at h3
 rcases h3 with h3 | h3
 ·exact (d.dis i hi u h2 ho').1 h3.symm
 ·have := (d.dis i hi u h2 ho').2 h3
  omega
theorem qKV.next {n : Nat} {y : St} (d : Done n y) {i : Nat} {s : List Bool} (h : qKV y i s) (hi : i ∈ y.L) : qKV y (i + 1) ((s.set (y.I.getD i (-1)).toNat true).set (y.O.getD i (-1)).toNat true) := by
 have hr := d.rI i hi
 have ho := d.rO i hi
 have ho' := d.o hi
 intro c hc
 rw [qAX] at hc
 split at hc
 ·rename_i q
  exact ⟨i, by omega, hi, .inr (by omega)⟩
 ·rw [qAX] at hc
  split at hc
  ·rename_i q
   exact ⟨i, by omega, hi, .inl (by omega)⟩
  ·obtain ⟨u, h1, h2, h3⟩ := h c hc
   exact ⟨u, by omega, h2, h3⟩
theorem qKV.skip {y : St} {i : Nat} {s : List Bool} (h : qKV y i s) : qKV y (i + 1) s := fun c hc => by
 obtain ⟨u, h1, h2, h3⟩ := h c hc
 exact ⟨u, by omega, h2, h3⟩
theorem qDE (l : List qAF) : Done l.length (fin l) := qG7 _ _
theorem qYI (l : List qAF) (i : Nat) : qCR l i = if i ∈ (fin l).L then qQC (fin l) i else [] := by
 unfold qCR
 have := qZG (qAB l) l.length i
 show (qMZ i (evsT (qAB l) l.length) []).getD [] = _
 rw [this]
 show (if i ∈ (fin l).L then some (qQC (fin l) i) else none).getD [] = _
 split <;> rfl
end Go.Vc

namespace Go.Vc
set_option autoImplicit false
def insG (y : St) (i u : Nat) : Bool := decide (0 ≤ y.I.getD i (-1)) && decide (0 ≤ y.I.getD u (-1)) && (decide (y.I.getD u (-1) < y.I.getD i (-1)) && decide (y.O.getD i (-1) < y.O.getD u (-1)))
theorem qGU {y : St} {i u : Nat} : insG y i u = true ↔ 0 ≤ y.I.getD i (-1) ∧ 0 ≤ y.I.getD u (-1) ∧ y.I.getD u (-1) < y.I.getD i (-1) ∧ y.O.getD i (-1) < y.O.getD u (-1) := by
 unfold insG; simp [and_assoc]
theorem qZA {p : Nat → Bool} : ∀ (S : List Nat) (m : Nat), (∀ i j, i < j → j < S.length → p (S.getD j 0) = true → p (S.getD i 0) = true) → m ≤ S.length →
  (∀ j, m ≤ j → j < S.length → p (S.getD j 0) = false) → (m = 0 ∨ p (S.getD (m - 1) 0) = true) → S.take m = S.filter p := by
 intro S
 induction S with
 | nil => intro m _ _ _ _; simp
 | cons a S ih =>
  intro m hc hm hf ht
  cases m with
  | zero =>
   symm
   rw [List.take_zero, List.filter_eq_nil_iff]
   intro x hx
   obtain ⟨j, hj, e⟩ := List.mem_iff_getElem.1 hx
   have := hf j (Nat.zero_le _) hj
   rw [List.getD_eq_getElem?_getD, List.getElem?_eq_getElem hj] at this
   simp at this
   rw [← e, this]; simp
  | succ m =>
   have h0 : p a = true := by
    rcases ht with h | h
    ·cases h
    ·rw [Nat.add_sub_cancel] at h
     cases m with
     | zero => simpa using h
     | succ m => have := hc 0 (m + 1) (by omega) (by omega) h; simpa using this
   rw [List.take_succ_cons, List.filter_cons, if_pos h0]
   congr 1
   refine ih m (fun i j hij hj hp => ?_) (by simpa using hm) (fun j hj hl => ?_) ?_
   ·have := hc (i + 1) (j + 1) (by omega) (by simpa using hj) (by simpa using hp); simpa using this
   ·have := hf (j + 1) (by omega) (by simpa using hl); simpa using this
   ·rcases Nat.eq_zero_or_pos m with h | h
    ·exact .inl h
    ·right
     rcases ht with q | q
     ·cases q
     ·rw [Nat.add_sub_cancel] at q
      obtain ⟨k, rfl⟩ : ∃ k, m = k + 1 := ⟨m - 1, by omega⟩
      simpa using q
theorem qR8 {n : Nat} {y : St} (g : Good n y) {i j : Nat} (h : i < j) (hj : j < y.L.length) : y.I.getD (y.L.getD i 0) (-1) < y.I.getD (y.L.getD j 0) (-1) := by
 have := List.pairwise_iff_getElem.1 g.srt i j (by omega) hj h
 simpa [List.getD, List.getElem?_eq_getElem hj, List.getElem?_eq_getElem (show i < y.L.length by omega)] using this
theorem qK3 {y : St} {j : Nat} (hj : j < y.L.length) : y.L.getD j 0 ∈ y.L := by
 rw [List.getD_eq_getElem?_getD, List.getElem?_eq_getElem hj]; exact List.getElem_mem _
theorem qZ0 {n : Nat} {y : St} (d : Done n y) {k : Nat} (hk : k + 1 < y.L.length) :
  y.L.filter (insG y (y.L.getD (k + 1) 0)) = (y.L.filter (insG y (y.L.getD k 0)) ++ [y.L.getD k 0]).filter (insG y (y.L.getD (k + 1) 0)) := by
 have g := d.toGood
 have hsplit : y.L = y.L.take (k + 1) ++ y.L.drop (k + 1) := (List.take_append_drop _ _).symm
 have hsplit2 : y.L = y.L.take k ++ y.L.drop k := (List.take_append_drop _ _).symm
 have hdrop : ∀ m q, m ≤ q → q < y.L.length → ∀ u ∈ y.L.drop q, insG y (y.L.getD m 0) u = false := by
  intro m q hmq hq u hu
  obtain ⟨i, hi, e⟩ := List.mem_iff_getElem.1 hu
  rw [List.length_drop] at hi
  rw [List.getElem_drop] at e
  rw [Bool.eq_false_iff]
  intro h
  rw [qGU] at h
  have e2 : u = y.L.getD (q + i) 0 := by rw [← e, List.getD_eq_getElem?_getD, List.getElem?_eq_getElem (by omega)]; rfl
  rcases Nat.eq_or_lt_of_le (show m ≤ q + i by omega) with h2 | h2
  ·rw [e2, ← h2] at h; omega
  ·have := qR8 g h2 (by omega)
   rw [e2] at h; omega
 have f1 : ∀ m, m < y.L.length → y.L.filter (insG y (y.L.getD m 0)) = (y.L.take m).filter (insG y (y.L.getD m 0)) := by
  intro m hm
  have hs : ∀ p : Nat → Bool, y.L.filter p = (y.L.take m).filter p ++ (y.L.drop m).filter p := fun p => by rw [← List.filter_append, List.take_append_drop]
  have hd : (y.L.drop m).filter (insG y (y.L.getD m 0)) = [] := List.filter_eq_nil_iff.2 (fun u hu => by rw [hdrop m m (Nat.le_refl _) hm u hu]; simp)
  rw [hs, hd, List.append_nil]
 rw [f1 (k + 1) hk, f1 k (by omega)]
 have ht : y.L.take (k + 1) = y.L.take k ++ [y.L.getD k 0] := by
  rw [List.take_succ_eq_append_getElem (by omega)]
  congr 2
  rw [List.getD_eq_getElem?_getD, List.getElem?_eq_getElem (by omega)]; rfl
 rw [ht, List.filter_append, List.filter_append, List.filter_filter]
 congr 1
 apply List.filter_congr
 intro u hu
 have hu' : u ∈ y.L := List.mem_of_mem_take hu
 obtain ⟨i, hi, e⟩ := List.mem_iff_getElem.1 hu
 rw [List.length_take] at hi
 rw [List.getElem_take] at e
 have e2 : u = y.L.getD i 0 := by rw [← e, List.getD_eq_getElem?_getD, List.getElem?_eq_getElem (by omega)]; rfl
 have hI1 := qR8 g (show i < k by omega) (by omega)
 have hI2 := qR8 g (show k < k + 1 by omega) hk
 rw [← e2] at hI1
 cases hb : insG y (y.L.getD (k + 1) 0) u with
 | false => rw [Bool.false_and]
 | true =>
  rw [Bool.true_and]
  symm
  rw [qGU] at hb ⊢
  have hak := qK3 (show k < y.L.length by omega)
  have r1 := g.rI u hu'
  have r2 := g.rI _ hak
  refine ⟨r2.1, r1.1, hI1, ?_⟩
  rcases d.nest u hu' _ hak hI1 with q | q | q
  ·exact absurd q (d.o hu')
  ·exfalso
   have r3 := g.rI _ (qK3 hk)
   have r4 := (g.rO _ (qK3 hk)).resolve_left (d.o (qK3 hk))
   omega
  ·exact q.2
theorem qUE {y : St} {a b c : Nat} (h1 : insG y a b = true) (h2 : insG y b c = true) : insG y a c = true := by
 rw [qGU] at *; omega
theorem qWV {n : Nat} {y : St} (d : Done n y) {a u v : Nat} (ha : a ∈ y.L) (hu : u ∈ y.L) (hv : v ∈ y.L) (h1 : insG y a u = true) (h2 : insG y a v = true ∨ v = a) (h : y.I.getD u (-1) < y.I.getD v (-1)) : insG y v u = true := by
 rcases h2 with h2 | h2
 ·rw [qGU] at *
  refine ⟨h2.2.1, h1.2.1, h, ?_⟩
  rcases d.nest u hu v hv h with q | q | q
  ·exact absurd q (d.o hu)
  ·exfalso
   have := (d.rO a ha).resolve_left (d.o ha)
   omega
  ·exact q.2
 ·rw [h2]; exact h1
def qFV (y : St) (F : Nat → Bool) (a : Nat) : List Nat := (y.L.filter (insG y a) ++ [a]).filter F
theorem qRD {n : Nat} {y : St} (d : Done n y) (F : Nat → Bool) {a b : Nat} (ha : a ∈ y.L) :
  ∀ i j, i < j → j < (qFV y F a).length → insG y b ((qFV y F a).getD j 0) = true → insG y b ((qFV y F a).getD i 0) = true := by
 intro i j hij hj h
 have hp : (y.L.filter (insG y a) ++ [a]).Pairwise (fun u v => insG y v u = true) := by
  rw [List.pairwise_append]
  refine ⟨?_, List.pairwise_singleton _ _, fun u hu v hv => ?_⟩
  ·have hs : (y.L.filter (insG y a)).Pairwise (fun u v => y.I.getD u (-1) < y.I.getD v (-1)) := d.srt.sublist List.filter_sublist
   refine hs.imp_of_mem fun {u v} hu hv hlt => ?_
   rw [List.mem_filter] at hu hv
   exact qWV d ha hu.1 hv.1 hu.2 (.inl hv.2) hlt
  ·rw [List.mem_singleton] at hv
   rw [List.mem_filter] at hu
   rw [hv]; exact hu.2
 have hp2 := hp.sublist (List.filter_sublist (p := F))
 have := List.pairwise_iff_getElem.1 hp2 i j (by show i < (qFV y F a).length; omega) hj hij
 rw [List.getD_eq_getElem?_getD, List.getElem?_eq_getElem hj] at h
 rw [List.getD_eq_getElem?_getD, List.getElem?_eq_getElem (show i < (qFV y F a).length by omega)]
 exact qUE h this
theorem qXC {n : Nat} {y : St} (d : Done n y) (F : Nat → Bool) {k : Nat} (hk : k + 1 < y.L.length) (m : Nat) (hm : m ≤ (qFV y F (y.L.getD k 0)).length)
  (hf : ∀ j, m ≤ j → j < (qFV y F (y.L.getD k 0)).length → insG y (y.L.getD (k + 1) 0) ((qFV y F (y.L.getD k 0)).getD j 0) = false)
  (ht : m = 0 ∨ insG y (y.L.getD (k + 1) 0) ((qFV y F (y.L.getD k 0)).getD (m - 1) 0) = true) :
  (qFV y F (y.L.getD k 0)).take m = (y.L.filter (insG y (y.L.getD (k + 1) 0))).filter F := by
 rw [qZA _ m (qRD d F (qK3 (by omega))) hm hf ht]
 unfold qFV
 rw [qZ0 d hk, List.filter_filter, List.filter_filter]
 congr 1
 funext u
 exact Bool.and_comm _ _
theorem qVV {n : Nat} {y : St} (d : Done n y) (h0 : 0 < y.L.length) : y.L.filter (insG y (y.L.getD 0 0)) = [] := by
 rw [List.filter_eq_nil_iff]
 intro u hu h
 rw [qGU] at h
 obtain ⟨i, hi, e⟩ := List.mem_iff_getElem.1 hu
 have e2 : u = y.L.getD i 0 := by rw [← e, List.getD_eq_getElem?_getD, List.getElem?_eq_getElem (by omega)]; rfl
 rcases Nat.eq_zero_or_pos i with q | q
 ·rw [e2, q] at h; omega
 ·have := qR8 d.toGood q hi
  rw [e2] at h; omega
end Go.Vc
