/- A part of the proof: lemmas and walks that the last text of the claim joins; no condition. -/
import Derived.Test.YtjnmepijcndcpaaGreatWindowHasTF
import Derived.Shelf.Vars
import Derived.Test.YtjnmepijcndcpaaGreatRows
set_option linter.unusedVariables false
set_option linter.unusedSimpArgs false
set_option maxHeartbeats 8000000
namespace Go.Vc
set_option autoImplicit false
def sI (I : List Int) : List Bool := I.map fun v => decide (0 ≤ v)
theorem sI_set (I : List Int) (k m : Nat) : sI (I.set k (m : Int)) = (sI I).set k true := by
 unfold sI; rw [List.map_set, decide_eq_true (by omega : (0 : Int) ≤ (m : Int))]
theorem sI_rep (n : Nat) : sI (List.replicate n (-1)) = List.replicate n false := by
 unfold sI; rw [List.map_replicate]; rfl
theorem sI_getD (I : List Int) (k : Nat) (h : k < I.length) : (sI I).getD k true = decide (0 ≤ I.getD k 0) := by
 unfold sI; simp [List.getD, h]
def dR (K : Nat → List Int) (x : St) (i j : Nat) : St := x.run (dfs K (sI x.I) i j x.m).1
variable {K : Nat → List Int}
theorem run_cons (x : St) (e : Ev) (l : List Ev) : x.run (e :: l) = (x.step e).run l := rfl
theorem dR_fst : ∀ (s : List Bool) (i j c : Nat) (x : St), sI x.I = s → x.m = c →
  sI (x.run (dfs K s i j c).1).I = (dfs K s i j c).2.1 ∧ (x.run (dfs K s i j c).1).m = (dfs K s i j c).2.2 := by
 refine dfs_ind (K := K) ?_ ?_ ?_
 ·intro s i j c h x hs hm
  rw [dfs_end h]
  exact ⟨hs, by show x.m + 1 = c + 1; rw [hm]⟩
 ·intro s i j c h hk ih x hs hm
  rw [dfs_bad h hk]
  exact ih x hs hm
 ·intro s i j c h hk i1 i2 x hs hm
  rw [dfs_ok h hk]
  dsimp only
  rw [run_cons, run_app]
  have a := i1 (x.step (((K i).getD j 0).toNat, (i : Int), c, false)) (by show sI (x.I.set _ (x.m : Int)) = _; rw [sI_set, hs]) (by show x.m + 1 = c + 1; rw [hm])
  exact i2 _ a.1 a.2
theorem dR_end {x : St} {i j : Nat} (h : ¬ j < (K i).length) : dR K x i j = x.step (i, 0, x.m, true) := by
 unfold dR; rw [dfs_end h]; rfl
theorem dR_bad {x : St} {i j : Nat} (h : j < (K i).length) (hk : okK (sI x.I) ((K i).getD j 0) = false) : dR K x i j = dR K x i (j + 1) := by
 unfold dR; rw [dfs_bad h hk]
theorem dR_ok {x : St} {i j : Nat} (h : j < (K i).length) (hk : okK (sI x.I) ((K i).getD j 0) = true) :
    dR K x i j = dR K (dR K (x.step (((K i).getD j 0).toNat, (i : Int), x.m, false)) ((K i).getD j 0).toNat 0) i (j + 1) := by
  have hI : sI (x.step (((K i).getD j 0).toNat, (i : Int), x.m, false)).I = (sI x.I).set ((K i).getD j 0).toNat true := sI_set ..
  have hm : (x.step (((K i).getD j 0).toNat, (i : Int), x.m, false)).m = x.m + 1 := rfl
  have a := dR_fst (K := K) _ ((K i).getD j 0).toNat 0 _ _ hI hm
  have e1 : dR K (x.step (((K i).getD j 0).toNat, (i : Int), x.m, false)) ((K i).getD j 0).toNat 0 =
      (x.step (((K i).getD j 0).toNat, (i : Int), x.m, false)).run (dfs K ((sI x.I).set ((K i).getD j 0).toNat true) ((K i).getD j 0).toNat 0 (x.m + 1)).1 := by
    unfold dR; rw [hI, hm]
  rw [e1]
  generalize hy : (x.step (((K i).getD j 0).toNat, (i : Int), x.m, false)).run (dfs K ((sI x.I).set ((K i).getD j 0).toNat true) ((K i).getD j 0).toNat 0 (x.m + 1)).1 = y at *
  unfold dR
  rw [a.1, a.2, dfs_ok h hk]
  dsimp only
  rw [run_cons, run_app, hy]
theorem dR_ind {P : St → Nat → Nat → Prop} (he : ∀ x i j, ¬ j < (K i).length → P x i j) (hb : ∀ x i j, j < (K i).length → okK (sI x.I) ((K i).getD j 0) = false → P x i (j + 1) → P x i j)
  (ho : ∀ x i j, j < (K i).length → okK (sI x.I) ((K i).getD j 0) = true → P (x.step (((K i).getD j 0).toNat, (i : Int), x.m, false)) ((K i).getD j 0).toNat 0 →
   P (dR K (x.step (((K i).getD j 0).toNat, (i : Int), x.m, false)) ((K i).getD j 0).toNat 0) i (j + 1) → P x i j) : ∀ x i j, P x i j := by
 have main : ∀ (s : List Bool) (i j c : Nat) (x : St), sI x.I = s → x.m = c → P x i j := by
  refine dfs_ind (K := K) ?_ ?_ ?_
  ·intro s i j c h x hs hm; exact he x i j h
  ·intro s i j c h hk ih x hs hm; subst hs; exact hb x i j h hk (ih x rfl hm)
  ·intro s i j c h hk i1 i2 x hs hm
   subst hs; subst hm
   have hI : sI (x.step (((K i).getD j 0).toNat, (i : Int), x.m, false)).I = (sI x.I).set ((K i).getD j 0).toNat true := sI_set ..
   have a := dR_fst (K := K) _ ((K i).getD j 0).toNat 0 (x.m + 1) (x.step (((K i).getD j 0).toNat, (i : Int), x.m, false)) hI rfl
   refine ho x i j h hk (i1 _ hI rfl) (i2 _ ?_ ?_)
   ·unfold dR; rw [hI]; exact a.1
   ·unfold dR; rw [hI]; exact a.2
 exact fun x i j => main _ i j _ x rfl rfl
theorem dR_bnd : ∀ (x : St) (i j : Nat), (dR K x i j).m + 2 * unseen (sI (dR K x i j).I) ≤ x.m + 2 * unseen (sI x.I) + 1 ∧ (dR K x i j).I.length = x.I.length ∧ (dR K x i j).O.length = x.O.length ∧
  (dR K x i j).L.length + x.m ≤ x.L.length + (dR K x i j).m ∧ unseen (sI (dR K x i j).I) ≤ unseen (sI x.I) := by
 refine dR_ind (K := K) ?_ ?_ ?_
 ·intro x i j h
  rw [dR_end h]
  refine ⟨?_, rfl, List.length_set .., ?_, Nat.le_refl _⟩
  ·show x.m + 1 + _ ≤ _; exact Nat.le_of_eq (by show x.m + 1 + 2 * unseen (sI x.I) = _; omega)
  ·show x.L.length + x.m ≤ x.L.length + (x.m + 1); omega
 ·intro x i j h hk ih
  rw [dR_bad h hk]; exact ih
 ·intro x i j h hk i1 i2
  rw [dR_ok h hk]
  have hI : sI (x.step (((K i).getD j 0).toNat, (i : Int), x.m, false)).I = (sI x.I).set ((K i).getD j 0).toNat true := sI_set ..
  have hu := unseen_set (okK_spec hk).2.2
  have hm : (x.step (((K i).getD j 0).toNat, (i : Int), x.m, false)).m = x.m + 1 := rfl
  have hL : (x.step (((K i).getD j 0).toNat, (i : Int), x.m, false)).L.length = x.L.length + 1 := by
   show (x.L ++ [_]).length = _; simp
  have hIl : (x.step (((K i).getD j 0).toNat, (i : Int), x.m, false)).I.length = x.I.length := List.length_set ..
  have hOl : (x.step (((K i).getD j 0).toNat, (i : Int), x.m, false)).O.length = x.O.length := rfl
  rw [hI, hm, hL, hIl, hOl] at i1
  exact ⟨by omega, by omega, by omega, by omega, by omega⟩
def StE (x y : St) : Prop := x.L = y.L ∧ x.I = y.I ∧ x.O = y.O ∧ x.m = y.m
theorem StE.step {x y : St} (h : StE x y) {e e' : Ev} (h1 : e.1 = e'.1) (h2 : e.2.2.2 = e'.2.2.2) : StE (x.step e) (y.step e') := by
 obtain ⟨a, b, c, d⟩ := h
 unfold St.step
 rw [← h2]
 split
 ·exact ⟨a, b, by dsimp only; rw [c, d, h1], by dsimp only; rw [d]⟩
 ·exact ⟨by dsimp only; rw [a, h1], by dsimp only; rw [b, d, h1], c, by dsimp only; rw [d]⟩
theorem StE.run : ∀ {l : List Ev} {x y : St}, StE x y → StE (x.run l) (y.run l) := by
 intro l
 induction l with
 | nil => intro x y h; exact h
 | cons e l ih => intro x y h; exact ih (h.step rfl rfl)
theorem StE.dR {x y : St} (h : StE x y) (i j : Nat) : StE (dR K x i j) (dR K y i j) := by
 unfold Go.Vc.dR
 rw [← h.2.1, ← h.2.2.2]
 exact h.run
def wkS (K : Nat → List Int) (L : List Nat) (I O : List Int) (i m : Nat) : St := dR K (({ L := L, P := [], I := I, O := O, m := m } : St).step (i, 0, m, false)) i 0
theorem fin_wk (K : Nat → List Int) (n : Nat) (h : 0 < n) : StE (finT K n) (wkS K [] (List.replicate n (-1)) (List.replicate n (-1)) 0 0) := by
 have e : finT K n = dR K ((st0 n).step (0, -1, 0, false)) 0 0 := by
  unfold finT evsT dR
  rw [if_neg (by omega)]
  have e2 : sI ((st0 n).step (0, -1, 0, false)).I = (List.replicate n false).set 0 true := by
   show sI ((List.replicate n (-1)).set 0 ((0 : Nat) : Int)) = _
   rw [sI_set, sI_rep]
  have e3 : ((st0 n).step (0, -1, 0, false)).m = 1 := rfl
  rw [e2, e3, run_cons, runS, runS, List.append_nil]
 rw [e]
 unfold wkS
 exact (StE.step (x := st0 n) ⟨rfl, rfl, rfl, rfl⟩ rfl rfl).dR 0 0
end Go.Vc

namespace Go.Vc
open Go.Proofs
set_option maxRecDepth 10000
set_option maxHeartbeats 4000000
def hPre (t : List NodeD) (L : List Nat) (I O : List Int) (k : Int) (m : Nat) : Prop :=
 t.length ≤ 45 ∧ I.length = t.length ∧ O.length = t.length ∧ (0 ≤ k ∧ k < t.length) ∧ m + 2 * unseen (sI (I.set k.toNat (m : Int))) + 2 ≤ 200 ∧ L.length ≤ m
theorem cnd13 {I : List Int} {n : Nat} (hI : I.length = n) (k : Int) : (decide (k ≥ 0) && decide (k < (n : Int)) && decide (I.getD k.toNat 0 < 0)) = okK (sI I) k := by
  unfold okK
  by_cases h1 : k < 0
  · rw [decide_eq_false (by omega : ¬ k ≥ 0)]; rfl
  · rw [decide_eq_true (by omega : k ≥ 0)]
    by_cases h2 : k < (n : Int)
    · rw [decide_eq_true h2, sI_getD I k.toNat (by omega)]
      by_cases h3 : I.getD k.toNat 0 < 0
      · rw [decide_eq_true h3, decide_eq_false (by omega : ¬ 0 ≤ I.getD k.toNat 0)]; rfl
      · rw [decide_eq_false h3, decide_eq_true (by omega : 0 ≤ I.getD k.toNat 0)]; rfl
    · have : (sI I).getD k.toNat true = true := by
        rw [List.getD_eq_getElem?_getD, List.getElem?_eq_none (by unfold sI; rw [List.length_map]; omega)]; rfl
      rw [decide_eq_false h2, this]; rfl
theorem hWalkN (N : Nat) : ∀ (t : List NodeD) (L : List Nat) (I O : List Int) (k : Int) (m : Nat),
  FnM BB 117 [.agg [.rd nodeTy t], .int .i64 k, .own 0, .own 1, .own 2, .int .i64 m] [(0, .own intTy (natI L)), (1, .ow intTy I), (2, .ow intTy O)]
   (hPre t L I O k m ∧ unseen (sI (I.set k.toNat (m : Int))) < N)
   (.tup [.own 0, .int .i64 ((wkS (kidsOf t) L I O k.toNat m).m : Int)]) [(0, .own intTy (natI (wkS (kidsOf t) L I O k.toNat m).L)), (1, .ow intTy (wkS (kidsOf t) L I O k.toNat m).I), (2, .ow intTy (wkS (kidsOf t) L I O k.toNat m).O)] := by
 induction N with
 | zero => intro t L I O k m; exact ⟨Tryz.call117, fun h => absurd h.2 (Nat.not_lt_zero _)⟩
 | succ N ih =>
  intro t L I O k m
  refine FnM.intro (N := 79) [0, 1, 2, 3, 4, 5, 6, 12, 13, 14, 15, 34, 61] [] 3 Tryz.call117 Tryz.func117 rfl rfl (by kernel_rfl) (fun hpre => ?_)
  repeat' ((conv => whnf);first|(with_reducible first|rfl|exact absTF|exact absFT)|exact True.intro|intro _|refine And.intro ?_ ?_|refine Fin.mk ?_|refine W1 rfl ?_ ?_|refine W2 rfl ?_ ?_|refine W3 rfl ?_ ?_|refine W4 ?_ ?_|refine W5 rfl ?_ ?_|refine W6 ?_ ?_|refine AppN.mk ?_|refine X1 (W1 rfl ?_ ?_)|refine X1 (W2 rfl ?_ ?_)|refine X2 (W7 rfl ?_ ?_)|refine X3 (W7 rfl ?_ ?_)|refine X4 (W7 rfl ?_ ?_)|refine X5 (W7 rfl ?_ ?_))
  all_goals (try (conv => whnf))
  all_goals (try first|exact obA|refine Ob.mk ?_)
  all_goals (obtain ⟨⟨ht, hIl, hOl, hk, hm, hL⟩, hN⟩ := hpre)
  ·have : (natI L).length = L.length := by unfold natI; simp
   rw [this, List.length_singleton]
   simp only [bytes3, bytesB3]
   omega
  ·omega
  ·omega
  ·constructor <;> omega
  generalize hx0 : (({ L := L, P := [], I := I, O := O, m := m } : St).step (k.toNat, 0, m, false)) = x0
  have hxI : x0.I = I.set k.toNat (m : Int) := by rw [← hx0]; rfl
  have hxL : x0.L = L ++ [k.toNat] := by rw [← hx0]; rfl
  have hxO : x0.O = O := by rw [← hx0]; rfl
  have hxm : x0.m = m + 1 := by rw [← hx0]; rfl
  have hwk : wkS (kidsOf t) L I O k.toNat m = dR (kidsOf t) x0 k.toNat 0 := by unfold wkS; rw [hx0]
  rw [hwk]
  refine LoopStop.mk (α := St × Nat) (fun a => [(5, .int .i64 a.1.m), (14, .int .i64 a.2)]) (fun a => [(0, .own intTy (natI a.1.L)), (1, .ow intTy a.1.I), (2, .ow intTy a.1.O)]) 60
   (fun a => dR (kidsOf t) a.1 k.toNat a.2 = dR (kidsOf t) x0 k.toNat 0 ∧ a.1.I.length = t.length ∧ a.1.O.length = t.length ∧ a.1.m + 2 * unseen (sI a.1.I) + 1 ≤ 200 ∧ a.1.L.length ≤ a.1.m ∧ unseen (sI a.1.I) ≤ N ∧ a.2 ≤ (kidsOf t k.toNat).length)
   (fun a => (kidsOf t k.toNat).length - a.2) (x0, 0) ⟨rfl, by rw [hxI, List.length_set]; exact hIl, by rw [hxO]; exact hOl, by rw [hxI, hxm]; omega, by rw [hxL, hxm, List.length_append, List.length_singleton]; omega, by rw [hxI]; omega, Nat.zero_le _⟩ ?_ (fun a ha => ?_)
  ·repeat' ((conv => whnf);first|(with_reducible first|rfl|exact absTF|exact absFT)|exact True.intro|intro _|refine And.intro ?_ ?_|refine Fin.mk ?_|refine W1 rfl ?_ ?_|refine W2 rfl ?_ ?_|refine W3 rfl ?_ ?_|refine W4 ?_ ?_|refine W5 rfl ?_ ?_|refine W6 ?_ ?_|refine AppN.mk ?_|refine X1 (W1 rfl ?_ ?_)|refine X1 (W2 rfl ?_ ?_)|refine X2 (W7 rfl ?_ ?_)|refine X3 (W7 rfl ?_ ?_)|refine X4 (W7 rfl ?_ ?_)|refine X5 (W7 rfl ?_ ?_))
   all_goals (try (conv => whnf))
   all_goals (try first|exact obA|refine Ob.mk ?_)
   ·show (m : Int) + 1 = (x0.m : Int); rw [hxm]; omega
   ·show Chunk.own intTy _ = Chunk.own intTy (natI x0.L)
    rw [hxL, natI_snoc, Int.toNat_of_nonneg hk.1]
   ·show Chunk.ow intTy _ = Chunk.ow intTy x0.I
    rw [hxI]
   ·show Chunk.ow intTy _ = Chunk.ow intTy x0.O
    rw [hxO]
  ·obtain ⟨x, j⟩ := a
   dsimp only at ha ⊢
   obtain ⟨hD, hI2, hO2, hm2, hL2, hu2, hj2⟩ := ha
   repeat' ((conv => whnf);first|(with_reducible first|rfl|exact absTF|exact absFT)|exact True.intro|intro _|refine And.intro ?_ ?_|refine Fin.mk ?_|refine W1 rfl ?_ ?_|refine W2 rfl ?_ ?_|refine W3 rfl ?_ ?_|refine W4 ?_ ?_|refine W5 rfl ?_ ?_|refine W6 ?_ ?_|refine AppN.mk ?_|refine X1 (W1 rfl ?_ ?_)|refine X1 (W2 rfl ?_ ?_)|refine X2 (W7 rfl ?_ ?_)|refine X3 (W7 rfl ?_ ?_)|refine X4 (W7 rfl ?_ ?_)|refine X5 (W7 rfl ?_ ?_))
   all_goals (try (conv => whnf))
   all_goals (try first|exact obA|refine Ob.mk ?_)
   all_goals (try simp only [Int.toNat_natCast] at *)
   ·rename_i h1 h2 h3
    have hc : okK (sI x.I) ((kidsOf t k.toNat).getD j 0) = true := by rw [← cnd13 hI2]; exact h3
    have hks := okK_spec hc
    have hls : (sI x.I).length = t.length := by unfold sI; rw [List.length_map]; exact hI2
    have hu := unseen_set hks.2.2
    rw [← sI_set x.I ((kidsOf t k.toNat).getD j 0).toNat x.m] at hu
    show hPre t x.L x.I x.O ((kidsOf t k.toNat).getD j 0) x.m ∧ unseen (sI (x.I.set ((kidsOf t k.toNat).getD j 0).toNat (x.m : Int))) < N
    exact ⟨⟨ht, hI2, hO2, ⟨hks.1, by omega⟩, by omega, hL2⟩, by omega⟩
   ·rename_i h1 h2 h3
    have hj : j < (kidsOf t k.toNat).length := by have h := of_decide_eq_true h2; exact Int.ofNat_lt.mp h
    have hc : okK (sI x.I) ((kidsOf t k.toNat).getD j 0) = true := by rw [← cnd13 hI2]; exact h3
    rw [dR_ok hj hc] at hD
    have hks := okK_spec hc
    have hu := unseen_set hks.2.2
    rw [← sI_set x.I ((kidsOf t k.toNat).getD j 0).toNat x.m] at hu
    have hb := dR_bnd (K := kidsOf t) (x.step (((kidsOf t k.toNat).getD j 0).toNat, (k.toNat : Int), x.m, false)) ((kidsOf t k.toNat).getD j 0).toNat 0
    have e1 : (x.step (((kidsOf t k.toNat).getD j 0).toNat, (k.toNat : Int), x.m, false)).m = x.m + 1 := rfl
    have e2 : (x.step (((kidsOf t k.toNat).getD j 0).toNat, (k.toNat : Int), x.m, false)).I = x.I.set ((kidsOf t k.toNat).getD j 0).toNat (x.m : Int) := rfl
    have e3 : (x.step (((kidsOf t k.toNat).getD j 0).toNat, (k.toNat : Int), x.m, false)).O = x.O := rfl
    have e4 : (x.step (((kidsOf t k.toNat).getD j 0).toNat, (k.toNat : Int), x.m, false)).L.length = x.L.length + 1 := by show (x.L ++ [_]).length = _; simp
    have hE : StE (wkS (kidsOf t) x.L x.I x.O ((kidsOf t k.toNat).getD j 0).toNat x.m) (dR (kidsOf t) (x.step (((kidsOf t k.toNat).getD j 0).toNat, (k.toNat : Int), x.m, false)) ((kidsOf t k.toNat).getD j 0).toNat 0) := by
     unfold wkS
     exact StE.dR (StE.step (x := { L := x.L, P := [], I := x.I, O := x.O, m := x.m }) (y := x) ⟨rfl, rfl, rfl, rfl⟩ rfl rfl) _ _
    rw [e1, e2, e3, e4, List.length_set] at hb
    generalize dR (kidsOf t) (x.step (((kidsOf t k.toNat).getD j 0).toNat, (k.toNat : Int), x.m, false)) ((kidsOf t k.toNat).getD j 0).toNat 0 = y at *
    refine Rnd.mk ⟨(y, j + 1), ⟨hD, by show y.I.length = _; omega, by show y.O.length = _; omega, by show y.m + 2 * unseen (sI y.I) + 1 ≤ 200; omega, by show y.L.length ≤ y.m; omega, by show unseen (sI y.I) ≤ N; omega, by show j + 1 ≤ _; omega⟩, by show _ - (j + 1) < _; omega, ?_⟩
    repeat' ((conv => whnf);first|(with_reducible first|rfl|exact absTF|exact absFT)|exact True.intro|intro _|refine And.intro ?_ ?_|refine Fin.mk ?_|refine W1 rfl ?_ ?_|refine W2 rfl ?_ ?_|refine W3 rfl ?_ ?_|refine W4 ?_ ?_|refine W5 rfl ?_ ?_|refine W6 ?_ ?_|refine AppN.mk ?_|refine X1 (W1 rfl ?_ ?_)|refine X1 (W2 rfl ?_ ?_)|refine X2 (W7 rfl ?_ ?_)|refine X3 (W7 rfl ?_ ?_)|refine X4 (W7 rfl ?_ ?_)|refine X5 (W7 rfl ?_ ?_))
    all_goals (try (conv => whnf))
    all_goals (try first|exact obA|refine Ob.mk ?_)
    ·show ((wkS (kidsOf t) x.L x.I x.O ((kidsOf t k.toNat).getD j 0).toNat x.m).m : Int) = (y.m : Int)
     rw [hE.2.2.2]
    all_goals (try rfl)
    ·show Chunk.own intTy (natI (wkS (kidsOf t) x.L x.I x.O ((kidsOf t k.toNat).getD j 0).toNat x.m).L) = Chunk.own intTy (natI y.L)
     rw [hE.1]
    ·show Chunk.ow intTy (wkS (kidsOf t) x.L x.I x.O ((kidsOf t k.toNat).getD j 0).toNat x.m).I = Chunk.ow intTy y.I
     rw [hE.2.1]
    ·show Chunk.ow intTy (wkS (kidsOf t) x.L x.I x.O ((kidsOf t k.toNat).getD j 0).toNat x.m).O = Chunk.ow intTy y.O
     rw [hE.2.2.1]
   ·rename_i h1 h2 h3
    have hj : j < (kidsOf t k.toNat).length := by have h := of_decide_eq_true h2; exact Int.ofNat_lt.mp h
    have hc : okK (sI x.I) ((kidsOf t k.toNat).getD j 0) = false := by rw [← cnd13 hI2]; exact h3
    rw [dR_bad hj hc] at hD
    refine Rnd.mk ⟨(x, j + 1), ⟨hD, hI2, hO2, hm2, hL2, hu2, by show j + 1 ≤ _; omega⟩, by show _ - (j + 1) < _; omega, ?_⟩
    all_goals exact vcA
   all_goals (rename_i h1 h2)
   all_goals (have hj : ¬ j < (kidsOf t k.toNat).length := by have h := of_decide_eq_false h2; exact fun q => h (Int.ofNat_lt.mpr q))
   all_goals (rw [dR_end hj] at hD; rw [← hD])
   ·rfl
   ·rfl
   ·rfl
   ·rfl
instance hWalk (t : List NodeD) (L : List Nat) (I O : List Int) (k : Int) (m : Nat) :
  FnM BB 117 [.agg [.rd nodeTy t], .int .i64 k, .own 0, .own 1, .own 2, .int .i64 m] [(0, .own intTy (natI L)), (1, .ow intTy I), (2, .ow intTy O)]
   (hPre t L I O k m)
   (.tup [.own 0, .int .i64 ((wkS (kidsOf t) L I O k.toNat m).m : Int)]) [(0, .own intTy (natI (wkS (kidsOf t) L I O k.toNat m).L)), (1, .ow intTy (wkS (kidsOf t) L I O k.toNat m).I), (2, .ow intTy (wkS (kidsOf t) L I O k.toNat m).O)] :=
 have h := hWalkN (unseen (sI (I.set k.toNat (m : Int))) + 1) t L I O k m
 ⟨h.call, fun hp => h.ok ⟨hp, Nat.lt_succ_self _⟩⟩
end Go.Vc

namespace Go.Vc
open Go.Proofs
set_option maxRecDepth 10000
set_option maxHeartbeats 4000000
instance hWalk0 (t : List NodeD) (I O : List Int) :
  FnM BB 117 [.agg [.rd nodeTy t], .int .i64 0, .nils, .own 0, .own 1, .int .i64 0] [(0, .ow intTy I), (1, .ow intTy O)]
   (hPre t [] I O 0 0)
   (.tup [.own 2, .int .i64 ((wkS (kidsOf t) [] I O 0 0).m : Int)]) [(0, .ow intTy (wkS (kidsOf t) [] I O 0 0).I), (1, .ow intTy (wkS (kidsOf t) [] I O 0 0).O), (2, .own intTy (natI (wkS (kidsOf t) [] I O 0 0).L))] := by
 refine FnM.intro (N := 79) [0, 1, 2, 3, 4, 5, 6, 12, 13, 14, 15, 34, 61] [] 2 Tryz.call117 Tryz.func117 rfl rfl (by kernel_rfl) (fun hpre => ?_)
 repeat' ((conv => whnf);first|(with_reducible first|rfl|exact absTF|exact absFT)|exact True.intro|intro _|refine And.intro ?_ ?_|refine Fin.mk ?_|refine W1 rfl ?_ ?_|refine W2 rfl ?_ ?_|refine W3 rfl ?_ ?_|refine W4 ?_ ?_|refine W5 rfl ?_ ?_|refine W6 ?_ ?_|refine AppN.mk ?_|refine X1 (W1 rfl ?_ ?_)|refine X1 (W2 rfl ?_ ?_)|refine X2 (W7 rfl ?_ ?_)|refine X3 (W7 rfl ?_ ?_)|refine X4 (W7 rfl ?_ ?_)|refine X5 (W7 rfl ?_ ?_))
 all_goals (try (conv => whnf))
 all_goals (try first|exact obA|refine Ob.mk ?_)
 all_goals (obtain ⟨ht, hIl, hOl, hk, hm, hL⟩ := hpre)
 ·show 0 ≤ (0 : Int) ∧ (0 : Int) < (I.length : Int); omega
 ·show 0 < I.length; omega
 have hk0 : (0 : Int).toNat = 0 := rfl
 generalize hx0 : (({ L := [], P := [], I := I, O := O, m := 0 } : St).step (0, 0, 0, false)) = x0
 have hxI : x0.I = I.set 0 0 := by rw [← hx0]; rfl
 have hxL : x0.L = [0] := by rw [← hx0]; rfl
 have hxO : x0.O = O := by rw [← hx0]; rfl
 have hxm : x0.m = 1 := by rw [← hx0]; rfl
 have hwk : wkS (kidsOf t) [] I O 0 0 = dR (kidsOf t) x0 0 0 := by unfold wkS; rw [hx0]
 rw [hwk]
 have hm : 2 * unseen (sI (I.set 0 0)) + 2 ≤ 200 := by have h : 0 + 2 * unseen (sI (I.set (0 : Int).toNat ((0 : Nat) : Int))) + 2 ≤ 200 := hm; have e : I.set (0 : Int).toNat ((0 : Nat) : Int) = I.set 0 0 := rfl; rw [e] at h; omega
 refine LoopStop.mk (α := St × Nat) (fun a => [(5, .int .i64 a.1.m), (14, .int .i64 a.2)]) (fun a => [(4, .own intTy (natI a.1.L)), (0, .ow intTy a.1.I), (1, .ow intTy a.1.O)]) 60
  (fun a => dR (kidsOf t) a.1 0 a.2 = dR (kidsOf t) x0 0 0 ∧ a.1.I.length = t.length ∧ a.1.O.length = t.length ∧ a.1.m + 2 * unseen (sI a.1.I) + 1 ≤ 200 ∧ a.1.L.length ≤ a.1.m ∧ a.2 ≤ (kidsOf t 0).length)
  (fun a => (kidsOf t 0).length - a.2) (x0, 0) ⟨rfl, by rw [hxI, List.length_set]; exact hIl, by rw [hxO]; exact hOl, by rw [hxI, hxm]; omega, by rw [hxL, hxm]; decide, Nat.zero_le _⟩ ?_ (fun a ha => ?_)
 ·repeat' ((conv => whnf);first|(with_reducible first|rfl|exact absTF|exact absFT)|exact True.intro|intro _|refine And.intro ?_ ?_|refine Fin.mk ?_|refine W1 rfl ?_ ?_|refine W2 rfl ?_ ?_|refine W3 rfl ?_ ?_|refine W4 ?_ ?_|refine W5 rfl ?_ ?_|refine W6 ?_ ?_|refine AppN.mk ?_|refine X1 (W1 rfl ?_ ?_)|refine X1 (W2 rfl ?_ ?_)|refine X2 (W7 rfl ?_ ?_)|refine X3 (W7 rfl ?_ ?_)|refine X4 (W7 rfl ?_ ?_)|refine X5 (W7 rfl ?_ ?_))
  all_goals (try (conv => whnf))
  all_goals (try first|exact obA|refine Ob.mk ?_)
  ·show _ = (x0.m : Int); rw [hxm]; rfl
  ·show Chunk.own intTy _ = Chunk.own intTy (natI x0.L)
   rw [hxL]; rfl
  ·show Chunk.ow intTy _ = Chunk.ow intTy x0.I
   rw [hxI]; rfl
  ·show Chunk.ow intTy _ = Chunk.ow intTy x0.O
   rw [hxO]
 ·obtain ⟨x, j⟩ := a
  dsimp only at ha ⊢
  obtain ⟨hD, hI2, hO2, hm2, hL2, hj2⟩ := ha
  repeat' ((conv => whnf);first|(with_reducible first|rfl|exact absTF|exact absFT)|exact True.intro|intro _|refine And.intro ?_ ?_|refine Fin.mk ?_|refine W1 rfl ?_ ?_|refine W2 rfl ?_ ?_|refine W3 rfl ?_ ?_|refine W4 ?_ ?_|refine W5 rfl ?_ ?_|refine W6 ?_ ?_|refine AppN.mk ?_|refine X1 (W1 rfl ?_ ?_)|refine X1 (W2 rfl ?_ ?_)|refine X2 (W7 rfl ?_ ?_)|refine X3 (W7 rfl ?_ ?_)|refine X4 (W7 rfl ?_ ?_)|refine X5 (W7 rfl ?_ ?_))
  all_goals (try (conv => whnf))
  all_goals (try first|exact obA|refine Ob.mk ?_)
  all_goals (try simp only [Int.toNat_natCast] at *)
  ·rename_i h1 h2 h3
   have hc : okK (sI x.I) ((kidsOf t 0).getD j 0) = true := by rw [← cnd13 hI2]; exact h3
   have hks := okK_spec hc
   have hls : (sI x.I).length = t.length := by unfold sI; rw [List.length_map]; exact hI2
   have hu := unseen_set hks.2.2
   rw [← sI_set x.I ((kidsOf t 0).getD j 0).toNat x.m] at hu
   show hPre t x.L x.I x.O ((kidsOf t 0).getD j 0) x.m
   exact ⟨ht, hI2, hO2, ⟨hks.1, by omega⟩, by omega, hL2⟩
  ·rename_i h1 h2 h3
   have hj : j < (kidsOf t 0).length := by have h := of_decide_eq_true h2; exact Int.ofNat_lt.mp h
   have hc : okK (sI x.I) ((kidsOf t 0).getD j 0) = true := by rw [← cnd13 hI2]; exact h3
   rw [dR_ok hj hc] at hD
   have hks := okK_spec hc
   have hu := unseen_set hks.2.2
   rw [← sI_set x.I ((kidsOf t 0).getD j 0).toNat x.m] at hu
   have hb := dR_bnd (K := kidsOf t) (x.step (((kidsOf t 0).getD j 0).toNat, (0 : Int), x.m, false)) ((kidsOf t 0).getD j 0).toNat 0
   have e1 : (x.step (((kidsOf t 0).getD j 0).toNat, (0 : Int), x.m, false)).m = x.m + 1 := rfl
   have e2 : (x.step (((kidsOf t 0).getD j 0).toNat, (0 : Int), x.m, false)).I = x.I.set ((kidsOf t 0).getD j 0).toNat (x.m : Int) := rfl
   have e3 : (x.step (((kidsOf t 0).getD j 0).toNat, (0 : Int), x.m, false)).O = x.O := rfl
   have e4 : (x.step (((kidsOf t 0).getD j 0).toNat, (0 : Int), x.m, false)).L.length = x.L.length + 1 := by show (x.L ++ [_]).length = _; simp
   have hE : StE (wkS (kidsOf t) x.L x.I x.O ((kidsOf t 0).getD j 0).toNat x.m) (dR (kidsOf t) (x.step (((kidsOf t 0).getD j 0).toNat, (0 : Int), x.m, false)) ((kidsOf t 0).getD j 0).toNat 0) := by
    unfold wkS
    exact StE.dR (StE.step (x := { L := x.L, P := [], I := x.I, O := x.O, m := x.m }) (y := x) ⟨rfl, rfl, rfl, rfl⟩ rfl rfl) _ _
   rw [e1, e2, e3, e4, List.length_set] at hb
   generalize dR (kidsOf t) (x.step (((kidsOf t 0).getD j 0).toNat, (0 : Int), x.m, false)) ((kidsOf t 0).getD j 0).toNat 0 = y at *
   refine Rnd.mk ⟨(y, j + 1), ⟨hD, by show y.I.length = _; omega, by show y.O.length = _; omega, by show y.m + 2 * unseen (sI y.I) + 1 ≤ 200; omega, by show y.L.length ≤ y.m; omega, by show j + 1 ≤ _; omega⟩, by show _ - (j + 1) < _; omega, ?_⟩
   repeat' ((conv => whnf);first|(with_reducible first|rfl|exact absTF|exact absFT)|exact True.intro|intro _|refine And.intro ?_ ?_|refine Fin.mk ?_|refine W1 rfl ?_ ?_|refine W2 rfl ?_ ?_|refine W3 rfl ?_ ?_|refine W4 ?_ ?_|refine W5 rfl ?_ ?_|refine W6 ?_ ?_|refine AppN.mk ?_|refine X1 (W1 rfl ?_ ?_)|refine X1 (W2 rfl ?_ ?_)|refine X2 (W7 rfl ?_ ?_)|refine X3 (W7 rfl ?_ ?_)|refine X4 (W7 rfl ?_ ?_)|refine X5 (W7 rfl ?_ ?_))
   all_goals (try (conv => whnf))
   all_goals (try first|exact obA|refine Ob.mk ?_)
   ·show ((wkS (kidsOf t) x.L x.I x.O ((kidsOf t 0).getD j 0).toNat x.m).m : Int) = (y.m : Int)
    rw [hE.2.2.2]
   all_goals (try rfl)
   ·show Chunk.own intTy (natI (wkS (kidsOf t) x.L x.I x.O ((kidsOf t 0).getD j 0).toNat x.m).L) = Chunk.own intTy (natI y.L)
    rw [hE.1]
   ·show Chunk.ow intTy (wkS (kidsOf t) x.L x.I x.O ((kidsOf t 0).getD j 0).toNat x.m).I = Chunk.ow intTy y.I
    rw [hE.2.1]
   ·show Chunk.ow intTy (wkS (kidsOf t) x.L x.I x.O ((kidsOf t 0).getD j 0).toNat x.m).O = Chunk.ow intTy y.O
    rw [hE.2.2.1]
  ·rename_i h1 h2 h3
   have hj : j < (kidsOf t 0).length := by have h := of_decide_eq_true h2; exact Int.ofNat_lt.mp h
   have hc : okK (sI x.I) ((kidsOf t 0).getD j 0) = false := by rw [← cnd13 hI2]; exact h3
   rw [dR_bad hj hc] at hD
   refine Rnd.mk ⟨(x, j + 1), ⟨hD, hI2, hO2, hm2, hL2, by show j + 1 ≤ _; omega⟩, by show _ - (j + 1) < _; omega, ?_⟩
   all_goals exact vcA
  all_goals (rename_i h1 h2)
  all_goals (have hj : ¬ j < (kidsOf t 0).length := by have h := of_decide_eq_false h2; exact fun q => h (Int.ofNat_lt.mpr q))
  all_goals (rw [dR_end hj] at hD; rw [← hD])
  ·rfl
  ·rfl
  ·rfl
  ·rfl
theorem unseen_len (s : List Bool) : unseen s ≤ s.length := by unfold unseen; exact List.count_le_length
instance hAll (l : List NodeD) : Fn BB 61 [.agg [.rd nodeTy l]] (l.length ≤ 45) (.tup [.rd intTy (natI (fin l).L), .rd intTy (fin l).I, .rd intTy (fin l).O]) := by
 refine Fn.intro (N := 42) [0, 1, 2, 3, 4, 5, 6, 7, 8, 20, 31] [(1, [0, 0, 0, 6, 0, 0, 0, 6, 6, 6]), (2000007, [1,2])] Tryz.call61 Tryz.func61 rfl rfl (by kernel_rfl) (fun hpre => ?_)
 repeat' ((conv => whnf);first|(with_reducible first|rfl|exact absTF|exact absFT)|exact True.intro|intro _|refine And.intro ?_ ?_|refine Fin.mk ?_|refine W1 rfl ?_ ?_|refine W2 rfl ?_ ?_|refine W3 rfl ?_ ?_|refine W4 ?_ ?_|refine W5 rfl ?_ ?_|refine W6 ?_ ?_|refine AppN.mk ?_|refine X1 (W1 rfl ?_ ?_)|refine X1 (W2 rfl ?_ ?_)|refine X2 (W7 rfl ?_ ?_)|refine X3 (W7 rfl ?_ ?_)|refine X4 (W7 rfl ?_ ?_)|refine X5 (W7 rfl ?_ ?_))
 all_goals (try (conv => whnf))
 all_goals (try first|exact obA|refine Ob.mk ?_)
 all_goals (try simp only [bytes3, bytesB3] at *)
 all_goals (try omega)
 all_goals (rw [show ((l.length : Int)).toNat = l.length by omega])
 refine LoopStop.mk (α := Nat) (fun i => [(7, .int .i64 i)]) (fun i => [(1, .own intTy (List.replicate i (-1 : Int) ++ List.replicate (l.length - i) (0 : Int))), (2, .own intTy (List.replicate i (-1 : Int) ++ List.replicate (l.length - i) (0 : Int)))]) 40 (fun i => i ≤ l.length) (fun i => l.length - i) 0 (Nat.zero_le _) ?_ (fun i hi => ?_)
 ·all_goals exact vcA
 ·have hrl : (List.replicate i (-1 : Int) ++ List.replicate (l.length - i) (0 : Int)).length = l.length := by simp; omega
  repeat' ((conv => whnf);first|(with_reducible first|rfl|exact absTF|exact absFT)|exact True.intro|intro _|refine And.intro ?_ ?_|refine Fin.mk ?_|refine W1 rfl ?_ ?_|refine W2 rfl ?_ ?_|refine W3 rfl ?_ ?_|refine W4 ?_ ?_|refine W5 rfl ?_ ?_|refine W6 ?_ ?_|refine AppN.mk ?_|refine X1 (W1 rfl ?_ ?_)|refine X1 (W2 rfl ?_ ?_)|refine X2 (W7 rfl ?_ ?_)|refine X3 (W7 rfl ?_ ?_)|refine X4 (W7 rfl ?_ ?_)|refine X5 (W7 rfl ?_ ?_))
  all_goals (try (conv => whnf))
  all_goals (try first|exact obA|refine Ob.mk ?_)
  all_goals (try simp only [Int.toNat_natCast] at *)
  all_goals (try rw [hrl] at *)
  all_goals (try (have hlt : i < l.length := by have h := of_decide_eq_true ‹decide ((i : Int) < (l.length : Int)) = true›; omega))
  all_goals (try (have hin : i = l.length := by have h := of_decide_eq_false ‹decide ((i : Int) < (l.length : Int)) = false›; omega))
  ·refine Rnd.mk ⟨i + 1, by omega, by omega, ?_⟩
   repeat' ((conv => whnf);first|(with_reducible first|rfl|exact absTF|exact absFT)|exact True.intro|intro _|refine And.intro ?_ ?_|refine Fin.mk ?_|refine W1 rfl ?_ ?_|refine W2 rfl ?_ ?_|refine W3 rfl ?_ ?_|refine W4 ?_ ?_|refine W5 rfl ?_ ?_|refine W6 ?_ ?_|refine AppN.mk ?_|refine X1 (W1 rfl ?_ ?_)|refine X1 (W2 rfl ?_ ?_)|refine X2 (W7 rfl ?_ ?_)|refine X3 (W7 rfl ?_ ?_)|refine X4 (W7 rfl ?_ ?_)|refine X5 (W7 rfl ?_ ?_))
   all_goals (try (conv => whnf))
   all_goals (try first|exact obA|refine Ob.mk ?_)
   all_goals (try rfl)
   all_goals (rw [rep_step i l.length hlt])
  all_goals (subst hin; clear hrl)
  all_goals (try simp only [Nat.sub_self, List.replicate_zero, List.append_nil] at *)
  all_goals (try (have hpos : 0 < l.length := by have h := of_decide_eq_true ‹decide ((l.length : Int) > 0) = true›; omega))
  all_goals (try (have hE := fin_wk (kidsOf l) l.length hpos))
  ·have hu := unseen_len (sI ((List.replicate l.length (-1 : Int)).set (0 : Int).toNat ((0 : Nat) : Int)))
   have hul : (sI ((List.replicate l.length (-1 : Int)).set (0 : Int).toNat ((0 : Nat) : Int))).length = l.length := by unfold sI; simp
   exact ⟨hpre, by simp, by simp, ⟨by omega, by omega⟩, by omega, Nat.le_refl _⟩
  ·rw [← hE.1]; rfl
  ·rw [← hE.2.1]; rfl
  ·rw [← hE.2.2.1]; rfl
  all_goals (have hz : l.length = 0 := by have h := of_decide_eq_false ‹decide ((l.length : Int) > 0) = false›; omega)
  all_goals (have e : fin l = st0 l.length := by unfold fin finT evsT; rw [if_pos hz]; rfl)
  all_goals (rw [e])
  all_goals rfl
instance hList (l : List NodeD) : Fn BB 14 [.agg [.rd nodeTy l]] (l.length ≤ 45) (.rd intTy (natI (fin l).L)) := by
 refine Fn.intro (N := 13) [0, 1, 2, 3] [] Tryz.call14 Tryz.func14 rfl rfl (by kernel_rfl) (fun hpre => ?_)
 repeat' ((conv => whnf);first|(with_reducible first|rfl|exact absTF|exact absFT)|exact True.intro|intro _|refine And.intro ?_ ?_|refine Fin.mk ?_|refine W1 rfl ?_ ?_|refine W2 rfl ?_ ?_|refine W3 rfl ?_ ?_|refine W4 ?_ ?_|refine W5 rfl ?_ ?_|refine W6 ?_ ?_|refine AppN.mk ?_|refine X1 (W1 rfl ?_ ?_)|refine X1 (W2 rfl ?_ ?_)|refine X2 (W7 rfl ?_ ?_)|refine X3 (W7 rfl ?_ ?_)|refine X4 (W7 rfl ?_ ?_)|refine X5 (W7 rfl ?_ ?_))
 all_goals (try (conv => whnf))
 all_goals (try first|exact obA|refine Ob.mk ?_)
 all_goals (first | exact hpre | rfl)
instance hMarks (l : List NodeD) : Fn BB 156 [.agg [.rd nodeTy l]] (l.length ≤ 45) (.tup [.rd intTy (fin l).I, .rd intTy (fin l).O]) := by
 refine Fn.intro (N := 15) [0, 1, 2, 3, 5, 6] [] Tryz.call156 Tryz.func156 rfl rfl (by kernel_rfl) (fun hpre => ?_)
 repeat' ((conv => whnf);first|(with_reducible first|rfl|exact absTF|exact absFT)|exact True.intro|intro _|refine And.intro ?_ ?_|refine Fin.mk ?_|refine W1 rfl ?_ ?_|refine W2 rfl ?_ ?_|refine W3 rfl ?_ ?_|refine W4 ?_ ?_|refine W5 rfl ?_ ?_|refine W6 ?_ ?_|refine AppN.mk ?_|refine X1 (W1 rfl ?_ ?_)|refine X1 (W2 rfl ?_ ?_)|refine X2 (W7 rfl ?_ ?_)|refine X3 (W7 rfl ?_ ?_)|refine X4 (W7 rfl ?_ ?_)|refine X5 (W7 rfl ?_ ?_))
 all_goals (try (conv => whnf))
 all_goals (try first|exact obA|refine Ob.mk ?_)
 all_goals (first | exact hpre | rfl)
end Go.Vc

namespace Go.Vc
open Go.Proofs
set_option maxRecDepth 10000
set_option maxHeartbeats 4000000
def bareT (l : List NodeD) : List NodeD := l.set 0 (0, 0, [], [], [], -1, (l.getD 0 nodeTy.dflt).kids)
def subAt (x : List NodeD) (k : Nat) : List NodeD := bareT (putO x (kidsOf x) [] (List.replicate x.length false) k (-1))
def findI (l : List Int) (i : Int) : Option Nat := (List.range l.length).find? fun k => l.getD k 0 == i
def subT (t : List NodeD) (i : Int) : List NodeD := match findI (natI (fin t).L) i with | some k => subAt (tidyT t) k | none => [rootN]
theorem findI_at {l : List Int} {i : Int} {k : Nat} (hk : k < l.length) (h : l.getD k 0 = i) (h0 : ∀ j, j < k → l.getD j 0 ≠ i) : findI l i = some k := by
 unfold findI
 rw [List.find?_eq_some_iff_append]
 refine ⟨by rw [h]; simp, List.range k, (List.range' (k + 1) (l.length - (k + 1))), ?_, fun a ha => ?_⟩
 ·rw [List.range_eq_range', List.range_eq_range', show l.length = k + (1 + (l.length - (k + 1))) by omega, ← List.range'_append_1, ← List.range'_append_1]
  simp
  omega
 ·simpa using h0 a (by simpa using ha)
theorem findI_none {l : List Int} {i : Int} (h0 : ∀ j, j < l.length → l.getD j 0 ≠ i) : findI l i = none := by
 unfold findI
 rw [List.find?_eq_none]
 intro a ha
 simpa using h0 a (by simpa using ha)
def subPre (t : List NodeD) : Prop := smallT t = true ∧ t.length ≤ 45 ∧ smallT (tidyT t) = true ∧ (fin t).L.length ≤ (tidyT t).length ∧ (tidyT t).length ≤ 1000
instance hSubN (t : List NodeD) (i : Int) : FnM BN 116 [.agg [.rd nodeTy t], .int .i64 i] [] (subPre t) (.agg [.rd nodeTy (subT t i)]) [] := by
 refine FnM.intro (N := 67) [0, 1, 2, 4, 5, 7, 8, 9, 10, 30, 39, 47] [(10, [0, 0, 6, 0, 0, 0, 6, 6, 6, 6]), (11, [0, 1, 0, 1, 1, 1, 1, 1, 3, 3])] 0 Tryz.call116 Tryz.func116 rfl rfl (by kernel_rfl) (fun hpre => ?_)
 obtain ⟨h1, h2, h3, h4, h5⟩ := hpre
 have d := fin_done (kidsOf t) t.length
 have hlI : (fin t).I.length = t.length := d.lI
 have hll : (natI (fin t).L).length = (fin t).L.length := by unfold natI; rw [List.length_map]
 have hL : (fin t).L.length ≤ 45 := by have := nodup_lt d.nod d.lt; have e : (finT (kidsOf t) t.length).L = (fin t).L := rfl; rw [e] at this; omega
 have pp : ∀ k : Nat, k < (fin t).L.length → pPre (tidyT t) [] (List.replicate (tidyT t).length false) (k : Int) := fun k hk => by
  have h := unseen_len14 ((List.replicate (tidyT t).length false).set (k : Int).toNat true)
  rw [List.length_set, List.length_replicate] at h
  exact ⟨h3, List.length_replicate, ⟨by omega, by omega⟩, by show 0 + _ + 1 ≤ 5000; omega⟩
 have hin : ∀ j, j < (natI (fin t).L).length → (natI (fin t).L).getD j 0 = i → 0 ≤ i ∧ i < ((fin t).I.length : Int) ∧ ¬ (fin t).I.getD i.toNat intTy.dflt < 0 := fun j hj e => by
  rw [hll] at hj
  have hm : (fin t).L.getD j 0 ∈ (fin t).L := by rw [List.getD_eq_getElem?_getD, List.getElem?_eq_getElem hj]; exact List.getElem_mem _
  have e2 : (natI (fin t).L).getD j 0 = ((fin t).L.getD j 0 : Nat) := by unfold natI; simp [List.getD, hj]
  have e3 : i.toNat = (fin t).L.getD j 0 := by omega
  have hlt := d.lt _ hm
  have hr := d.rI _ hm
  have e4 : (fin t).I.getD i.toNat intTy.dflt = (finT (kidsOf t) t.length).I.getD ((fin t).L.getD j 0) (-1) := by
   rw [e3]
   show (fin t).I.getD _ _ = (fin t).I.getD _ _
   simp [List.getD, show (fin t).L[j]?.getD 0 < (fin t).I.length by rw [hlI]; exact hlt]
  rw [e4, hlI]
  have hlt2 : (fin t).L.getD j 0 < t.length := hlt
  omega
 repeat' ((conv => whnf);first|(with_reducible first|rfl|exact absTF|exact absFT)|exact True.intro|intro _|refine And.intro ?_ ?_|refine Fin.mk ?_|refine W1 rfl ?_ ?_|refine W2 rfl ?_ ?_|refine W3 rfl ?_ ?_|refine W4 ?_ ?_|refine W5 rfl ?_ ?_|refine W6 ?_ ?_|refine AppN.mk ?_|refine X1 (W1 rfl ?_ ?_)|refine X1 (W2 rfl ?_ ?_)|refine X2 (W7 rfl ?_ ?_)|refine X3 (W7 rfl ?_ ?_)|refine X4 (W7 rfl ?_ ?_)|refine X5 (W7 rfl ?_ ?_))
 all_goals (try (conv => whnf))
 all_goals (try first|exact obA|refine Ob.mk ?_)
 ·have h := ‹(decide (i < 0) || decide (i ≥ ((fin t).I.length : Int))) = false›
  simp only [Bool.or_eq_false_iff, decide_eq_false_iff_not] at h
  omega
 ·have h := ‹(decide (i < 0) || decide (i ≥ ((fin t).I.length : Int)) || decide ((fin t).I.getD i.toNat intTy.dflt < 0)) = true›
  simp only [Bool.or_eq_true, decide_eq_true_eq] at h
  unfold subT
  rw [findI_none (fun j hj e => by have := hin j hj e; omega)]
 refine LoopStop.mk (α := Nat) (fun k => [(9, .int .i64 k)]) (fun _ => []) 20 (fun k => k ≤ (natI (fin t).L).length ∧ ∀ j, j < k → (natI (fin t).L).getD j 0 ≠ i) (fun k => (natI (fin t).L).length - k) 0 ⟨Nat.zero_le _, fun j hj => absurd hj (Nat.not_lt_zero _)⟩ ?_ (fun k hk => ?_)
 ·all_goals exact vcA
 ·obtain ⟨hk, ha⟩ := hk
  repeat' ((conv => whnf);first|(with_reducible first|rfl|exact absTF|exact absFT)|exact True.intro|intro _|refine And.intro ?_ ?_|refine Fin.mk ?_|refine W1 rfl ?_ ?_|refine W2 rfl ?_ ?_|refine W3 rfl ?_ ?_|refine W4 ?_ ?_|refine W5 rfl ?_ ?_|refine W6 ?_ ?_|refine AppN.mk ?_|refine X1 (W1 rfl ?_ ?_)|refine X1 (W2 rfl ?_ ?_)|refine X2 (W7 rfl ?_ ?_)|refine X3 (W7 rfl ?_ ?_)|refine X4 (W7 rfl ?_ ?_)|refine X5 (W7 rfl ?_ ?_))
  all_goals (try (conv => whnf))
  all_goals (try first|exact obA|refine Ob.mk ?_)
  all_goals (try simp only [Int.toNat_natCast] at *)
  all_goals (try (have hp : k < (natI (fin t).L).length := by have h := of_decide_eq_true ‹decide ((k : Int) < ((natI (fin t).L).length : Int)) = true›; omega))
  all_goals (try (exact pp k (by omega)))
  all_goals (try (have hlen := putO_len (t := tidyT t) (K := kidsOf (tidyT t)) [] (List.replicate (tidyT t).length false) k (-1)))
  all_goals (try (have hl1 : 1 ≤ (putO (tidyT t) (kidsOf (tidyT t)) [] (List.replicate (tidyT t).length false) k (-1)).length := hlen.1))
  all_goals clear hlen
  all_goals (try (first | omega | (constructor <;> omega)))
  ·unfold subT
   rw [findI_at hp (show (natI (fin t).L).getD k intTy.dflt = i from beq_iff_eq.1 ‹((natI (fin t).L).getD k intTy.dflt == i) = true›) ha]
   rfl
  ·refine Rnd.mk ⟨k + 1, ⟨by omega, fun j hj => ?_⟩, by omega, ?_⟩
   ·rcases Nat.lt_or_ge j k with q | q
    ·exact ha j q
    ·have e : j = k := by omega
     rw [e]; exact fun (q : (natI (fin t).L).getD k intTy.dflt = i) => absurd (beq_iff_eq.2 q) (by rw [‹((natI (fin t).L).getD k intTy.dflt == i) = false›]; decide)
   ·all_goals exact vcA
  ·have e : k = (natI (fin t).L).length := by have h := of_decide_eq_false ‹decide ((k : Int) < ((natI (fin t).L).length : Int)) = false›; omega
   unfold subT
   rw [findI_none (fun j hj => ha j (by omega))]
instance hSub14 (t : List NodeD) (i : Int) : Fn BB 116 [.agg [.rd nodeTy t], .int .i64 i] (subPre t) (.agg [.rd nodeTy (subT t i)]) :=
 have h := hSubN t i
 ⟨h.call, h.ok⟩
end Go.Vc

namespace Go.Vc
open Go.Proofs
set_option maxRecDepth 10000
set_option maxHeartbeats 4000000
def hitN (nm : List UInt8) (a : AttrD) : Bool := a.1 == nm
def ixP {α : Type} (p : α → Bool) : List α → Int
 | [] => -1
 | x :: r => if p x = true then 0 else if ixP p r = -1 then -1 else ixP p r + 1
theorem ixP_ge {α : Type} (p : α → Bool) (l : List α) : -1 ≤ ixP p l ∧ ixP p l < l.length ∨ ixP p l = -1 := by
 induction l with
 | nil => right; rfl
 | cons x r ih =>
  unfold ixP
  simp only [List.length_cons]
  split
  ·left; omega
  ·split
   ·right; rfl
   ·left; rename_i h; rcases ih with h2 | h2 <;> omega
theorem ixP_at {α : Type} {p : α → Bool} {l : List α} {k : Nat} {d : α} (hk : k < l.length) (ha : (l.take k).all (fun x => !p x) = true) (h : p (l.getD k d) = true) : ixP p l = k := by
 induction l generalizing k with
 | nil => simp at hk
 | cons x r ih =>
  cases k with
  | zero => unfold ixP; rw [if_pos (by simpa using h)]; rfl
  | succ k =>
   rw [List.take_succ_cons, List.all_cons, Bool.and_eq_true, Bool.not_eq_true'] at ha
   have := ih (by simpa using hk) ha.2 (by simpa using h)
   unfold ixP
   rw [if_neg (by rw [ha.1]; decide), this, if_neg (by omega)]
   rfl
theorem ixP_none {α : Type} {p : α → Bool} {l : List α} (ha : l.all (fun x => !p x) = true) : ixP p l = -1 := by
 induction l with
 | nil => rfl
 | cons x r ih =>
  rw [List.all_cons, Bool.and_eq_true, Bool.not_eq_true'] at ha
  unfold ixP
  rw [if_neg (by rw [ha.1]; decide), ih ha.2, if_pos rfl]
def getV (l : List AttrD) (nm : List UInt8) : List UInt8 := match l.find? (hitN nm) with | some a => a.2 | none => []
theorem getV_at {l : List AttrD} {nm : List UInt8} {k : Nat} (hk : k < l.length) (ha : (l.take k).all (fun x => !hitN nm x) = true) (h : hitN nm (l.getD k attrTy.dflt) = true) : getV l nm = (l.getD k attrTy.dflt).2 ∧ l.any (hitN nm) = true := by
 induction l generalizing k with
 | nil => simp at hk
 | cons x r ih =>
  cases k with
  | zero =>
   have h' : hitN nm x = true := h
   unfold getV
   rw [List.find?_cons, h', List.any_cons, h']
   exact ⟨rfl, rfl⟩
  | succ k =>
   rw [List.take_succ_cons, List.all_cons, Bool.and_eq_true, Bool.not_eq_true'] at ha
   have := ih (by simpa using hk) ha.2 h
   unfold getV at *
   rw [List.find?_cons, ha.1, List.any_cons, ha.1, Bool.false_or]
   exact this
theorem getV_none {l : List AttrD} {nm : List UInt8} (ha : l.all (fun x => !hitN nm x) = true) : getV l nm = [] ∧ l.any (hitN nm) = false := by
 induction l with
 | nil => exact ⟨rfl, rfl⟩
 | cons x r ih =>
  rw [List.all_cons, Bool.and_eq_true, Bool.not_eq_true'] at ha
  have := ih ha.2
  unfold getV at *
  rw [List.find?_cons, ha.1, List.any_cons, ha.1, Bool.false_or]
  exact this
instance tPl1 (a b nm : List UInt8) : FnM BB 175 [.agg [.str a, .str b], .loc 0 0] [(0, .box [.str nm])] True (.bool (a == nm)) [(0, .box [.str nm])] := by
 refine FnM.intro (N := 8) [0, 1, 2, 3] [] 1 Tryz.call175 Tryz.func175 rfl rfl (by kernel_rfl) (fun hpre => ?_)
 all_goals exact vcA
instance xIx (l : List AttrD) (nm : List UInt8) : FnM BB 174 [.rd attrTy l, .fn 175 [.loc 0 0]] [(0, .box [.str nm])] (l.length ≤ 100000) (.int .i64 (ixP (hitN nm) l)) [(0, .box [.str nm])] := by
 refine FnM.intro (N := 19) [0, 1, 4, 5, 7, 8, 9, 16] [] 1 Tryz.call174 Tryz.func174 rfl rfl (by kernel_rfl) (fun hpre => ?_)
 repeat' ((conv => whnf);first|(with_reducible first|rfl|exact absTF|exact absFT)|exact True.intro|intro _|refine And.intro ?_ ?_|refine Fin.mk ?_|refine W1 rfl ?_ ?_|refine W2 rfl ?_ ?_|refine W3 rfl ?_ ?_|refine W4 ?_ ?_|refine W5 rfl ?_ ?_|refine W6 ?_ ?_|refine AppN.mk ?_|refine X1 (W1 rfl ?_ ?_)|refine X1 (W2 rfl ?_ ?_)|refine X2 (W7 rfl ?_ ?_)|refine X3 (W7 rfl ?_ ?_)|refine X4 (W7 rfl ?_ ?_)|refine X5 (W7 rfl ?_ ?_))
 all_goals (try (conv => whnf))
 all_goals (try first|exact obA|refine Ob.mk ?_)
 refine LoopStop.mk (α := Nat) (fun k => [(8, .int .i64 k)]) (fun _ => []) 20 (fun k => k ≤ l.length ∧ (l.take k).all (fun x => !hitN nm x) = true) (fun k => l.length - k) 0 (by simp) ?_ (fun k hk => ?_)
 ·all_goals exact vcA
 ·obtain ⟨hk, ha⟩ := hk
  repeat' ((conv => whnf);first|(with_reducible first|rfl|exact absTF|exact absFT)|exact True.intro|intro _|refine And.intro ?_ ?_|refine Fin.mk ?_|refine W1 rfl ?_ ?_|refine W2 rfl ?_ ?_|refine W3 rfl ?_ ?_|refine W4 ?_ ?_|refine W5 rfl ?_ ?_|refine W6 ?_ ?_|refine AppN.mk ?_|refine X1 (W1 rfl ?_ ?_)|refine X1 (W2 rfl ?_ ?_)|refine X2 (W7 rfl ?_ ?_)|refine X3 (W7 rfl ?_ ?_)|refine X4 (W7 rfl ?_ ?_)|refine X5 (W7 rfl ?_ ?_))
  all_goals (try (conv => whnf))
  all_goals (try first|exact obA|refine Ob.mk ?_)
  all_goals (try simp only [Int.toNat_natCast] at *)
  ·have hp := of_decide_eq_true ‹decide ((k : Int) < (l.length : Int)) = true›
   have h : ((l.getD k attrTy.dflt).1 == nm) = true := ‹_›
   exact (ixP_at (p := hitN nm) (d := attrTy.dflt) (by omega) ha h).symm
  ·have hp := of_decide_eq_true ‹decide ((k : Int) < (l.length : Int)) = true›
   have h : ((l.getD k attrTy.dflt).1 == nm) = false := ‹_›
   refine Rnd.mk ⟨k + 1, ⟨by omega, ?_⟩, by omega, ?_⟩
   ·rw [take_all (fun x => !hitN nm x) l k attrTy.dflt (by omega), ha]
    show (true && !((l.getD k attrTy.dflt).1 == nm)) = true
    rw [h]; rfl
   ·all_goals exact vcA
  ·have hp := of_decide_eq_false ‹decide ((k : Int) < (l.length : Int)) = false›
   have : k = l.length := by omega
   subst this
   rw [List.take_length] at ha
   exact (ixP_none ha).symm
instance xPlace (l : List AttrD) (nm : List UInt8) : Fn BB 140 [.rd attrTy l, .str nm] (l.length ≤ 100000) (.int .i64 (ixP (hitN nm) l)) := by
 refine Fn.intro (N := 8) [0, 1, 3, 4] [] Tryz.call140 Tryz.func140 rfl rfl (by kernel_rfl) (fun hpre => ?_)
 all_goals exact vcA
theorem ixP_get (l : List AttrD) (nm : List UInt8) : (decide (ixP (hitN nm) l ≥ 0) = l.any (hitN nm)) ∧ (0 ≤ ixP (hitN nm) l → (ixP (hitN nm) l).toNat < l.length ∧ (l.getD (ixP (hitN nm) l).toNat attrTy.dflt).2 = getV l nm) ∧ (ixP (hitN nm) l < 0 → getV l nm = []) := by
 induction l with
 | nil => exact ⟨rfl, fun h => absurd (show (0:Int) ≤ -1 from h) (by decide), fun _ => rfl⟩
 | cons x r ih =>
  obtain ⟨i1, i2, i3⟩ := ih
  have hg := ixP_ge (hitN nm) r
  unfold ixP getV
  rw [List.any_cons, List.find?_cons]
  cases h : hitN nm x with
  | true => simp
  | false =>
   simp only [Bool.false_eq_true, if_false, Bool.false_or]
   split
   ·rename_i q
    refine ⟨?_, fun h => absurd h (by decide), fun _ => i3 (by omega)⟩
    rw [← i1, q]
   ·rename_i q
    have h0 : 0 ≤ ixP (hitN nm) r := by rcases hg with h | h <;> omega
    obtain ⟨j1, j2⟩ := i2 h0
    refine ⟨?_, fun _ => ?_, fun h => by omega⟩
    ·rw [← i1, Bool.eq_iff_iff]; simp; omega
    ·rw [show (ixP (hitN nm) r + 1).toNat = (ixP (hitN nm) r).toNat + 1 by omega]
     refine ⟨by rw [List.length_cons]; omega, ?_⟩
     rw [List.getD_cons_succ]; exact j2
instance xGet (l : List AttrD) (nm : List UInt8) : Fn BB 90 [.rd attrTy l, .str nm] (l.length ≤ 100000) (.tup [.str (getV l nm), .bool (l.any (hitN nm))]) := by
 refine Fn.intro (N := 17) [0, 1, 4, 5, 6, 11] [] Tryz.call90 Tryz.func90 rfl rfl (by kernel_rfl) (fun hpre => ?_)
 obtain ⟨h1, h2, h3⟩ := ixP_get l nm
 repeat' ((conv => whnf);first|(with_reducible first|rfl|exact absTF|exact absFT)|exact True.intro|intro _|refine And.intro ?_ ?_|refine Fin.mk ?_|refine W1 rfl ?_ ?_|refine W2 rfl ?_ ?_|refine W3 rfl ?_ ?_|refine W4 ?_ ?_|refine W5 rfl ?_ ?_|refine W6 ?_ ?_|refine AppN.mk ?_|refine X1 (W1 rfl ?_ ?_)|refine X1 (W2 rfl ?_ ?_)|refine X2 (W7 rfl ?_ ?_)|refine X3 (W7 rfl ?_ ?_)|refine X4 (W7 rfl ?_ ?_)|refine X5 (W7 rfl ?_ ?_))
 all_goals (try (conv => whnf))
 all_goals (try first|exact obA|refine Ob.mk ?_)
 all_goals (first | (have hp := of_decide_eq_true ‹decide (ixP (hitN nm) l ≥ 0) = true›; first | exact (h2 hp).2 | exact (h2 hp).1 | (rw [← h1]; exact (‹decide (ixP (hitN nm) l ≥ 0) = true›).symm)) | (have hp := of_decide_eq_false ‹decide (ixP (hitN nm) l ≥ 0) = false›; first | exact (h3 (by omega)).symm | (rw [← h1]; exact (‹decide (ixP (hitN nm) l ≥ 0) = false›).symm)))
instance xRGet (l : List AttrD) (nm : List UInt8) : Fn BB 86 [.rd attrTy l, .str nm] (l.length ≤ 100000) (.tup [.str (getV l nm), .bool (l.any (hitN nm))]) := by
 refine Fn.intro (N := 25) [0, 1, 4, 5, 6, 10, 19] [] Tryz.call86 Tryz.func86 rfl rfl (by kernel_rfl) (fun hpre => ?_)
 repeat' ((conv => whnf);first|(with_reducible first|rfl|exact absTF|exact absFT)|exact True.intro|intro _|refine And.intro ?_ ?_|refine Fin.mk ?_|refine W1 rfl ?_ ?_|refine W2 rfl ?_ ?_|refine W3 rfl ?_ ?_|refine W4 ?_ ?_|refine W5 rfl ?_ ?_|refine W6 ?_ ?_|refine AppN.mk ?_|refine X1 (W1 rfl ?_ ?_)|refine X1 (W2 rfl ?_ ?_)|refine X2 (W7 rfl ?_ ?_)|refine X3 (W7 rfl ?_ ?_)|refine X4 (W7 rfl ?_ ?_)|refine X5 (W7 rfl ?_ ?_))
 all_goals (try (conv => whnf))
 all_goals (try first|exact obA|refine Ob.mk ?_)
 refine LoopStop.mk (α := Nat) (fun k => [(6, .int .i64 k)]) (fun _ => []) 20 (fun k => k ≤ l.length ∧ (l.take k).all (fun x => !hitN nm x) = true) (fun k => l.length - k) 0 (by simp) ?_ (fun k hk => ?_)
 ·all_goals exact vcA
 ·obtain ⟨hk, ha⟩ := hk
  repeat' ((conv => whnf);first|(with_reducible first|rfl|exact absTF|exact absFT)|exact True.intro|intro _|refine And.intro ?_ ?_|refine Fin.mk ?_|refine W1 rfl ?_ ?_|refine W2 rfl ?_ ?_|refine W3 rfl ?_ ?_|refine W4 ?_ ?_|refine W5 rfl ?_ ?_|refine W6 ?_ ?_|refine AppN.mk ?_|refine X1 (W1 rfl ?_ ?_)|refine X1 (W2 rfl ?_ ?_)|refine X2 (W7 rfl ?_ ?_)|refine X3 (W7 rfl ?_ ?_)|refine X4 (W7 rfl ?_ ?_)|refine X5 (W7 rfl ?_ ?_))
  all_goals (try (conv => whnf))
  all_goals (try first|exact obA|refine Ob.mk ?_)
  all_goals (try simp only [Int.toNat_natCast] at *)
  all_goals (try (have hp : k < l.length := by have h := of_decide_eq_true ‹decide ((k : Int) < (l.length : Int)) = true›; omega))
  all_goals (try (have hh := getV_at (nm := nm) hp ha (show ((l.getD k attrTy.dflt).1 == nm) = true from ‹_›)))
  all_goals (try (have hz : k = l.length := by have h := of_decide_eq_false ‹decide ((k : Int) < (l.length : Int)) = false›; omega))
  all_goals (first | omega | (rw [hh.1]; done) | (rw [hh.2]; done) | (subst hz; rw [List.take_length] at ha; rw [(getV_none ha).1]; done) | (subst hz; rw [List.take_length] at ha; rw [(getV_none ha).2]; done) | skip)
  have h : ((l.getD k attrTy.dflt).1 == nm) = false := ‹_›
  refine Rnd.mk ⟨k + 1, ⟨by omega, ?_⟩, by omega, ?_⟩
  ·rw [take_all (fun x => !hitN nm x) l k attrTy.dflt hp, ha]
   show (true && !((l.getD k attrTy.dflt).1 == nm)) = true
   rw [h]; rfl
  ·all_goals exact vcA
end Go.Vc

namespace Go.Vc
open Go.Proofs
set_option maxRecDepth 10000
set_option maxHeartbeats 8000000
def addL (l : List AttrD) (a : AttrD) : List AttrD := if l.any (hitN a.1) = true then l else l ++ [a]
instance gGet (l : List AttrD) (nm : List UInt8) : FnM BB 86 [.own 0, .str nm] [(0, .ro attrTy l)] (l.length ≤ 100000) (.tup [.str (getV l nm), .bool (l.any (hitN nm))]) [(0, .ro attrTy l)] := by
 refine FnM.intro (N := 25) [0, 1, 4, 5, 6, 10, 19] [] 1 Tryz.call86 Tryz.func86 rfl rfl (by kernel_rfl) (fun hpre => ?_)
 repeat' ((conv => whnf);first|(with_reducible first|rfl|exact absTF|exact absFT)|exact True.intro|intro _|refine And.intro ?_ ?_|refine Fin.mk ?_|refine W1 rfl ?_ ?_|refine W2 rfl ?_ ?_|refine W3 rfl ?_ ?_|refine W4 ?_ ?_|refine W5 rfl ?_ ?_|refine W6 ?_ ?_|refine AppN.mk ?_|refine X1 (W1 rfl ?_ ?_)|refine X1 (W2 rfl ?_ ?_)|refine X2 (W7 rfl ?_ ?_)|refine X3 (W7 rfl ?_ ?_)|refine X4 (W7 rfl ?_ ?_)|refine X5 (W7 rfl ?_ ?_))
 all_goals (try (conv => whnf))
 all_goals (try first|exact obA|refine Ob.mk ?_)
 refine LoopStop.mk (α := Nat) (fun k => [(6, .int .i64 k)]) (fun _ => []) 20 (fun k => k ≤ l.length ∧ (l.take k).all (fun x => !hitN nm x) = true) (fun k => l.length - k) 0 (by simp) ?_ (fun k hk => ?_)
 ·all_goals exact vcA
 ·obtain ⟨hk, ha⟩ := hk
  repeat' ((conv => whnf);first|(with_reducible first|rfl|exact absTF|exact absFT)|exact True.intro|intro _|refine And.intro ?_ ?_|refine Fin.mk ?_|refine W1 rfl ?_ ?_|refine W2 rfl ?_ ?_|refine W3 rfl ?_ ?_|refine W4 ?_ ?_|refine W5 rfl ?_ ?_|refine W6 ?_ ?_|refine AppN.mk ?_|refine X1 (W1 rfl ?_ ?_)|refine X1 (W2 rfl ?_ ?_)|refine X2 (W7 rfl ?_ ?_)|refine X3 (W7 rfl ?_ ?_)|refine X4 (W7 rfl ?_ ?_)|refine X5 (W7 rfl ?_ ?_))
  all_goals (try (conv => whnf))
  all_goals (try first|exact obA|refine Ob.mk ?_)
  all_goals (try simp only [Int.toNat_natCast] at *)
  all_goals (try (have hp : k < l.length := by have h := of_decide_eq_true ‹decide ((k : Int) < (l.length : Int)) = true›; omega))
  all_goals (try (have hh := getV_at (nm := nm) hp ha (show ((l.getD k attrTy.dflt).1 == nm) = true from ‹_›)))
  all_goals (try (have hz : k = l.length := by have h := of_decide_eq_false ‹decide ((k : Int) < (l.length : Int)) = false›; omega))
  all_goals (first | omega | (rw [hh.1]; done) | (rw [hh.2]; done) | (subst hz; rw [List.take_length] at ha; rw [(getV_none ha).1]; done) | (subst hz; rw [List.take_length] at ha; rw [(getV_none ha).2]; done) | skip)
  have h : ((l.getD k attrTy.dflt).1 == nm) = false := ‹_›
  refine Rnd.mk ⟨k + 1, ⟨by omega, ?_⟩, by omega, ?_⟩
  ·rw [take_all (fun x => !hitN nm x) l k attrTy.dflt hp, ha]
   show (true && !((l.getD k attrTy.dflt).1 == nm)) = true
   rw [h]; rfl
  ·all_goals exact vcA
instance gGetN (nm : List UInt8) : Fn BB 86 [.nils, .str nm] True (.tup [.str [], .bool false]) := by
 refine Fn.intro (N := 25) [0, 1, 4, 5, 6, 10, 19] [] Tryz.call86 Tryz.func86 rfl rfl (by kernel_rfl) (fun hpre => ?_)
 repeat' ((conv => whnf);first|(with_reducible first|rfl|exact absTF|exact absFT)|exact True.intro|intro _|refine And.intro ?_ ?_|refine Fin.mk ?_|refine W1 rfl ?_ ?_|refine W2 rfl ?_ ?_|refine W3 rfl ?_ ?_|refine W4 ?_ ?_|refine W5 rfl ?_ ?_|refine W6 ?_ ?_|refine AppN.mk ?_|refine X1 (W1 rfl ?_ ?_)|refine X1 (W2 rfl ?_ ?_)|refine X2 (W7 rfl ?_ ?_)|refine X3 (W7 rfl ?_ ?_)|refine X4 (W7 rfl ?_ ?_)|refine X5 (W7 rfl ?_ ?_))
 all_goals (try (conv => whnf))
 all_goals (try first|exact obA|refine Ob.mk ?_)
 refine LoopStop.mk (α := Unit) (fun k => [(6, .int .i64 0)]) (fun _ => []) 20 (fun k => True) (fun k => 0) () True.intro ?_ (fun k hk => ?_)
 ·all_goals exact vcA
 ·repeat' ((conv => whnf);first|(with_reducible first|rfl|exact absTF|exact absFT)|exact True.intro|intro _|refine And.intro ?_ ?_|refine Fin.mk ?_|refine W1 rfl ?_ ?_|refine W2 rfl ?_ ?_|refine W3 rfl ?_ ?_|refine W4 ?_ ?_|refine W5 rfl ?_ ?_|refine W6 ?_ ?_|refine AppN.mk ?_|refine X1 (W1 rfl ?_ ?_)|refine X1 (W2 rfl ?_ ?_)|refine X2 (W7 rfl ?_ ?_)|refine X3 (W7 rfl ?_ ?_)|refine X4 (W7 rfl ?_ ?_)|refine X5 (W7 rfl ?_ ?_))
  all_goals (try (conv => whnf))
  all_goals (try first|exact obA|refine Ob.mk ?_)
  all_goals (first | (exfalso; exact absurd ‹decide ((0 : Int) < 0) = true› (by decide)) | rfl | trace_state)
instance gAdd (l : List AttrD) (a b : List UInt8) : FnM BB 320 [.own 0, .agg [.str a, .str b]] [(0, .ro attrTy l)] (l.length ≤ 50000) (.own 1) [(0, .ro attrTy l), (1, .own attrTy (addL l (a, b)))] := by
 refine FnM.intro (N := 25) [0, 1, 3, 4, 5, 7, 19] [] 1 Tryz.call320 Tryz.func320 rfl rfl (by kernel_rfl) (fun hpre => ?_)
 have e1 : (!l.any (hitN a)) = true → addL l (a, b) = l ++ [(a, b)] := fun h => by unfold addL; rw [if_neg (by simpa using h)]
 have e2 : (!l.any (hitN a)) = false → addL l (a, b) = l := fun h => by unfold addL; rw [if_pos (by simpa using h)]
 repeat' ((conv => whnf);first|(with_reducible first|rfl|exact absTF|exact absFT)|exact True.intro|intro _|refine And.intro ?_ ?_|refine Fin.mk ?_|refine W1 rfl ?_ ?_|refine W2 rfl ?_ ?_|refine W3 rfl ?_ ?_|refine W4 ?_ ?_|refine W5 rfl ?_ ?_|refine W6 ?_ ?_|refine AppN.mk ?_|refine X1 (W1 rfl ?_ ?_)|refine X1 (W2 rfl ?_ ?_)|refine X2 (W7 rfl ?_ ?_)|refine X3 (W7 rfl ?_ ?_)|refine X4 (W7 rfl ?_ ?_)|refine X5 (W7 rfl ?_ ?_))
 all_goals (try (conv => whnf))
 all_goals (try first|exact obA|refine Ob.mk ?_)
 all_goals (first | (rw [e1 ‹_›]; rfl) | (rw [e2 ‹_›]; rfl) | trace_state)
instance gAddN (a b : List UInt8) : FnM BB 320 [.nils, .agg [.str a, .str b]] [] True (.own 0) [(0, .own attrTy [(a, b)])] := by
 refine FnM.intro (N := 25) [0, 1, 3, 4, 5, 7, 19] [] 0 Tryz.call320 Tryz.func320 rfl rfl (by kernel_rfl) (fun hpre => ?_)
 repeat' ((conv => whnf);first|(with_reducible first|rfl|exact absTF|exact absFT)|exact True.intro|intro _|refine And.intro ?_ ?_|refine Fin.mk ?_|refine W1 rfl ?_ ?_|refine W2 rfl ?_ ?_|refine W3 rfl ?_ ?_|refine W4 ?_ ?_|refine W5 rfl ?_ ?_|refine W6 ?_ ?_|refine AppN.mk ?_|refine X1 (W1 rfl ?_ ?_)|refine X1 (W2 rfl ?_ ?_)|refine X2 (W7 rfl ?_ ?_)|refine X3 (W7 rfl ?_ ?_)|refine X4 (W7 rfl ?_ ?_)|refine X5 (W7 rfl ?_ ?_))
 all_goals (try (conv => whnf))
 all_goals (try first|exact obA|refine Ob.mk ?_)
 ·rfl
 ·exact absurd ‹(!false) = false› (by decide)
end Go.Vc

namespace Go.Vc
open Go.Proofs
set_option maxRecDepth 10000
set_option maxHeartbeats 8000000
theorem takeM1 (op : List Int) (h : 0 < op.length) : op.take ((op.length : Int) - 1).toNat = op.take (op.length - 1) := by rw [show ((op.length : Int) - 1).toNat = op.length - 1 by omega]
instance xDropA (t : List NodeD) (op : List Int) (md bk lx fm hd : Int) (fo sk : Bool) (ins : List UInt8) : FnM BB 281 [.loc 0 0]
  [(0, .box [.own 1, .own 2, .nils, .int .i64 md, .int .i64 bk, .int .i64 lx, .int .i64 fm, .int .i64 hd, .bool fo, .bool sk, .str ins]), (1, .own nodeTy t), (2, .own intTy op)] (0 < op.length ∧ op.length ≤ 1000) (.tup [])
  [(0, .box [.own 1, .own 3, .nils, .int .i64 md, .int .i64 bk, .int .i64 lx, .int .i64 fm, .int .i64 hd, .bool fo, .bool sk, .str ins]), (1, .own nodeTy t), (3, .own intTy (op.take (op.length - 1)))] := by
 refine FnM.intro (N := 18) [0] [(0, [0, 4, 0, 0, 0, 4, 0, 0, 0, 4, 4, 4, 4, 4, 0, 0, 4]), (1000000, [2])] 3 Tryz.call281 Tryz.func281 rfl rfl (by kernel_rfl) (fun hpre => ?_)
 have h := takeM1 op hpre.1
 repeat' ((conv => whnf);first|(with_reducible first|rfl|exact absTF|exact absFT)|exact True.intro|intro _|refine And.intro ?_ ?_|refine Fin.mk ?_|refine W1 rfl ?_ ?_|refine W2 rfl ?_ ?_|refine W3 rfl ?_ ?_|refine W4 ?_ ?_|refine W5 rfl ?_ ?_|refine W6 ?_ ?_|refine AppN.mk ?_|refine X1 (W1 rfl ?_ ?_)|refine X1 (W2 rfl ?_ ?_)|refine X2 (W7 rfl ?_ ?_)|refine X3 (W7 rfl ?_ ?_)|refine X4 (W7 rfl ?_ ?_)|refine X5 (W7 rfl ?_ ?_))
 all_goals (try (conv => whnf))
 all_goals (try first|exact obA|refine Ob.mk ?_)
 all_goals (try (first | rfl | (simp only [cast_eq, List.nil_append] at *; rw [h]; done) | omega))
 all_goals trace_state
end Go.Vc

namespace Go.Vc
open Go.Proofs
set_option maxRecDepth 10000
set_option maxHeartbeats 4000000
def shortB (l : List NodeD) : Bool := l.all fun n => decide (n.2.2.1.length ≤ 60)
theorem shortB_ok {l : List NodeD} (h : shortB l = true) : shortN l := fun i => by
 cases hi : isT l i with
 | false => rw [nodeE_out hi]; exact Nat.zero_le _
 | true =>
  rw [nodeE_in hi]
  have h2 := isT_iff.1 hi
  unfold shortB at h
  rw [List.all_eq_true] at h
  have hm : nd l i ∈ l := by
   have e : nd l i = l[i.toNat] := by unfold nd; rw [List.getD_eq_getElem?_getD, List.getElem?_eq_getElem (by omega)]; rfl
   rw [e]; exact List.getElem_mem _
  simpa using h _ hm
instance s56m (t : List NodeD) (l : List Int) (nm : List UInt8) : FnM BB 304 [.agg [.rd nodeTy t], .rd intTy l, .str nm] [] (nm.length ≤ 100000 ∧ l.length ≤ 100000) (.own 0) [(0, .own intTy (l.take (popR (fun x => isE t x nm) l l.length)))] := by
 refine FnM.intro (N := 29) [0, 1, 2, 3, 6, 7, 10, 25] [] 0 Tryz.call304 Tryz.func304 rfl rfl (by kernel_rfl) (fun hpre => ?_)
 repeat' ((conv => whnf);first|(with_reducible first|rfl|exact absTF|exact absFT)|exact True.intro|intro _|refine And.intro ?_ ?_|refine Fin.mk ?_|refine W1 rfl ?_ ?_|refine W2 rfl ?_ ?_|refine W3 rfl ?_ ?_|refine W4 ?_ ?_|refine W5 rfl ?_ ?_|refine W6 ?_ ?_|refine AppN.mk ?_|refine X1 (W1 rfl ?_ ?_)|refine X1 (W2 rfl ?_ ?_)|refine X2 (W7 rfl ?_ ?_)|refine X3 (W7 rfl ?_ ?_)|refine X4 (W7 rfl ?_ ?_)|refine X5 (W7 rfl ?_ ?_))
 all_goals (try (conv => whnf))
 all_goals (try first|exact obA|refine Ob.mk ?_)
 refine LoopStop.mk (α := Nat) (fun n => [(1, .rd intTy (l.take n))]) (fun _ => []) 20 (fun n => n ≤ l.length ∧ popR (fun x => isE t x nm) l l.length = popR (fun x => isE t x nm) l n) (fun n => n) l.length (by simp) ?_ (fun n hC => ?_)
 ·repeat' ((conv => whnf);first|(with_reducible first|rfl|exact absTF|exact absFT)|exact True.intro|intro _|refine And.intro ?_ ?_|refine Fin.mk ?_|refine W1 rfl ?_ ?_|refine W2 rfl ?_ ?_|refine W3 rfl ?_ ?_|refine W4 ?_ ?_|refine W5 rfl ?_ ?_|refine W6 ?_ ?_|refine AppN.mk ?_|refine X1 (W1 rfl ?_ ?_)|refine X1 (W2 rfl ?_ ?_)|refine X2 (W7 rfl ?_ ?_)|refine X3 (W7 rfl ?_ ?_)|refine X4 (W7 rfl ?_ ?_)|refine X5 (W7 rfl ?_ ?_))
  all_goals (try (conv => whnf))
  all_goals (try first|exact obA|refine Ob.mk ?_)
  all_goals (first | rfl | (rw [List.take_of_length_le (Nat.le_refl _)]; done))
 ·obtain ⟨hn, hC⟩ := hC
  have e0 := len_take hn
  have e1 : ((n : Int) - 1).toNat = n - 1 := by omega
  have e2 : 1 < n → (l.take n).getD (n - 1) intTy.dflt = l.getD (n - 1) 0 := fun h => take_getD (by omega)
  repeat' ((conv => whnf);first|(with_reducible first|rfl|exact absTF|exact absFT)|exact True.intro|intro _|refine And.intro ?_ ?_|refine Fin.mk ?_|refine W1 rfl ?_ ?_|refine W2 rfl ?_ ?_|refine W3 rfl ?_ ?_|refine W4 ?_ ?_|refine W5 rfl ?_ ?_|refine W6 ?_ ?_|refine AppN.mk ?_|refine X1 (W1 rfl ?_ ?_)|refine X1 (W2 rfl ?_ ?_)|refine X2 (W7 rfl ?_ ?_)|refine X3 (W7 rfl ?_ ?_)|refine X4 (W7 rfl ?_ ?_)|refine X5 (W7 rfl ?_ ?_))
  all_goals (try (conv => whnf))
  all_goals (try rw [e0] at *)
  all_goals (try rw [e1] at *)
  all_goals (try rw [take_pred] at *)
  all_goals (try first|exact obA|refine Ob.mk ?_)
  ·rename_i h
   have h1 : 1 < n := by have := of_decide_eq_true ‹decide ((n : Int) > 1) = true›; omega
   rw [e2 h1] at h
   rw [hC.trans (popR_hit h1 h)]; rfl
  ·rename_i h
   have h1 : 1 < n := by have := of_decide_eq_true ‹decide ((n : Int) > 1) = true›; omega
   rw [e2 h1] at h
   refine Rnd.mk ⟨n - 1, ⟨by omega, hC.trans (popR_go h1 h)⟩, by omega, ?_, ?_, ?_⟩
   all_goals exact vcA
  ·have h1 : ¬ 1 < n := by have := of_decide_eq_false ‹decide ((n : Int) > 1) = false›; omega
   rw [hC.trans (popR_one h1)]; rfl
instance s58m (t : List NodeD) (l : List Int) (nm : List UInt8) : FnM BB 340 [.agg [.rd nodeTy t], .rd intTy l, .str nm] [] (shortN t ∧ nm.length ≤ 100000 ∧ l.length ≤ 100000) (.own 0) [(0, .own intTy (l.take (cutR (implN t nm) l l.length)))] := by
 refine FnM.intro (N := 44) [0, 1, 2, 3, 6, 7, 10, 35] [(2, [0, 0, 0, 0, 0, 0, 0, 6, 6, 6])] 0 Tryz.call340 Tryz.func340 rfl rfl (by kernel_rfl) (fun hpre => ?_)
 repeat' ((conv => whnf);first|(with_reducible first|rfl|exact absTF|exact absFT)|exact True.intro|intro _|refine And.intro ?_ ?_|refine Fin.mk ?_|refine W1 rfl ?_ ?_|refine W2 rfl ?_ ?_|refine W3 rfl ?_ ?_|refine W4 ?_ ?_|refine W5 rfl ?_ ?_|refine W6 ?_ ?_|refine AppN.mk ?_|refine X1 (W1 rfl ?_ ?_)|refine X1 (W2 rfl ?_ ?_)|refine X2 (W7 rfl ?_ ?_)|refine X3 (W7 rfl ?_ ?_)|refine X4 (W7 rfl ?_ ?_)|refine X5 (W7 rfl ?_ ?_))
 all_goals (try (conv => whnf))
 all_goals (try first|exact obA|refine Ob.mk ?_)
 refine LoopStop.mk (α := Nat) (fun n => [(1, .rd intTy (l.take n))]) (fun _ => []) 20 (fun n => n ≤ l.length ∧ cutR (implN t nm) l l.length = cutR (implN t nm) l n) (fun n => n) l.length (by simp) ?_ (fun n hC => ?_)
 ·repeat' ((conv => whnf);first|(with_reducible first|rfl|exact absTF|exact absFT)|exact True.intro|intro _|refine And.intro ?_ ?_|refine Fin.mk ?_|refine W1 rfl ?_ ?_|refine W2 rfl ?_ ?_|refine W3 rfl ?_ ?_|refine W4 ?_ ?_|refine W5 rfl ?_ ?_|refine W6 ?_ ?_|refine AppN.mk ?_|refine X1 (W1 rfl ?_ ?_)|refine X1 (W2 rfl ?_ ?_)|refine X2 (W7 rfl ?_ ?_)|refine X3 (W7 rfl ?_ ?_)|refine X4 (W7 rfl ?_ ?_)|refine X5 (W7 rfl ?_ ?_))
  all_goals (try (conv => whnf))
  all_goals (try first|exact obA|refine Ob.mk ?_)
  all_goals (first | rfl | (rw [List.take_of_length_le (Nat.le_refl _)]; done))
 ·obtain ⟨hn, hC⟩ := hC
  have e0 := len_take hn
  have e1 : ((n : Int) - 1).toNat = n - 1 := by omega
  have e2 : 1 < n → (l.take n).getD (n - 1) intTy.dflt = l.getD (n - 1) 0 := fun h => take_getD (by omega)
  have e3 := hpre.1 ((l.take n).getD (n - 1) intTy.dflt)
  repeat' ((conv => whnf);first|(with_reducible first|rfl|exact absTF|exact absFT)|exact True.intro|intro _|refine And.intro ?_ ?_|refine Fin.mk ?_|refine W1 rfl ?_ ?_|refine W2 rfl ?_ ?_|refine W3 rfl ?_ ?_|refine W4 ?_ ?_|refine W5 rfl ?_ ?_|refine W6 ?_ ?_|refine AppN.mk ?_|refine X1 (W1 rfl ?_ ?_)|refine X1 (W2 rfl ?_ ?_)|refine X2 (W7 rfl ?_ ?_)|refine X3 (W7 rfl ?_ ?_)|refine X4 (W7 rfl ?_ ?_)|refine X5 (W7 rfl ?_ ?_))
  all_goals (try (conv => whnf))
  all_goals (try rw [e0] at *)
  all_goals (try rw [e1] at *)
  all_goals (try rw [take_pred] at *)
  all_goals (try first|exact obA|refine Ob.mk ?_)
  ·rename_i h1 h
   have h1 : 1 < n := by have := of_decide_eq_true h1; omega
   have h : (!implN t nm ((l.take n).getD (n - 1) intTy.dflt)) = true := by rw [implN_neg]; exact h
   rw [e2 h1] at h
   rw [hC.trans (cutR_stop h1 (by simpa using h))]; rfl
  ·rename_i h1 h hz
   have h1 : 1 < n := by have := of_decide_eq_true h1; omega
   have h : (!implN t nm ((l.take n).getD (n - 1) intTy.dflt)) = false := by rw [implN_neg]; exact h
   rw [e2 h1] at h
   refine Rnd.mk ⟨n - 1, ⟨by omega, hC.trans (cutR_go h1 (by simpa using h))⟩, by omega, ?_, ?_, ?_⟩
   all_goals exact vcA
  ·rename_i h1
   have h1 : ¬ 1 < n := by have := of_decide_eq_false h1; omega
   rw [hC.trans (cutR_one h1)]; rfl
instance (priority := 3000) qAPop (t : List NodeD) (op : List Int) (nm : List UInt8) (md bk lx fm hd : Int) (fo sk : Bool) (ins : List UInt8) :
  FnM BB 239 [.loc 0 0, .str nm] [(0, .box [.own 1, .own 2, .nils, .int .i64 md, .int .i64 bk, .int .i64 lx, .int .i64 fm, .int .i64 hd, .bool fo, .bool sk, .str ins]), (1, .own nodeTy t), (2, .own intTy (op))] (shortB t = true ∧ nm.length ≤ 100000 ∧ op.length ≤ 100000)
   (.tup []) [(0, .box [.own 1, .own 2, .nils, .int .i64 md, .int .i64 bk, .int .i64 lx, .int .i64 fm, .int .i64 hd, .bool fo, .bool sk, .str ins]), (1, .own nodeTy t), (2, .own intTy (op.take (popR (fun x => isE t x nm) op op.length)))] := by
 refine FnM.intro (N := 17) [0, 1] [(0, [0, 0, 0, 0, 1, 0, 0, 0, 1, 0, 3, 0, 0, 3])] 3 Tryz.call239 Tryz.func239 rfl rfl (by kernel_rfl) (fun hpre => ?_)
 obtain ⟨h1, h2, h3⟩ := hpre
 have h1 := shortB_ok h1
 repeat' ((conv => whnf);first|(with_reducible first|rfl|exact absTF|exact absFT)|exact True.intro|intro _|refine And.intro ?_ ?_|refine Fin.mk ?_|refine W1 rfl ?_ ?_|refine W2 rfl ?_ ?_|refine W3 rfl ?_ ?_|refine W4 ?_ ?_|refine W5 rfl ?_ ?_|refine W6 ?_ ?_|refine AppN.mk ?_|refine X1 (W1 rfl ?_ ?_)|refine X1 (W2 rfl ?_ ?_)|refine X2 (W7 rfl ?_ ?_)|refine X3 (W7 rfl ?_ ?_)|refine X4 (W7 rfl ?_ ?_)|refine X5 (W7 rfl ?_ ?_))
 all_goals (try (conv => whnf))
 all_goals (try first|exact obA|refine Ob.mk ?_)
 all_goals (first | exact ⟨h1, h2, h3⟩ | exact ⟨h2, h3⟩ | rfl | trace_state)
instance (priority := 3000) qAImplied (t : List NodeD) (op : List Int) (nm : List UInt8) (md bk lx fm hd : Int) (fo sk : Bool) (ins : List UInt8) :
  FnM BB 282 [.loc 0 0, .str nm] [(0, .box [.own 1, .own 2, .nils, .int .i64 md, .int .i64 bk, .int .i64 lx, .int .i64 fm, .int .i64 hd, .bool fo, .bool sk, .str ins]), (1, .own nodeTy t), (2, .own intTy (op))] (shortB t = true ∧ nm.length ≤ 100000 ∧ op.length ≤ 100000)
   (.tup []) [(0, .box [.own 1, .own 2, .nils, .int .i64 md, .int .i64 bk, .int .i64 lx, .int .i64 fm, .int .i64 hd, .bool fo, .bool sk, .str ins]), (1, .own nodeTy t), (2, .own intTy (op.take (cutR (implN t nm) op op.length)))] := by
 refine FnM.intro (N := 17) [0, 1] [(0, [0, 0, 0, 0, 1, 0, 0, 0, 1, 0, 3, 0, 0, 3])] 3 Tryz.call282 Tryz.func282 rfl rfl (by kernel_rfl) (fun hpre => ?_)
 obtain ⟨h1, h2, h3⟩ := hpre
 have h1 := shortB_ok h1
 repeat' ((conv => whnf);first|(with_reducible first|rfl|exact absTF|exact absFT)|exact True.intro|intro _|refine And.intro ?_ ?_|refine Fin.mk ?_|refine W1 rfl ?_ ?_|refine W2 rfl ?_ ?_|refine W3 rfl ?_ ?_|refine W4 ?_ ?_|refine W5 rfl ?_ ?_|refine W6 ?_ ?_|refine AppN.mk ?_|refine X1 (W1 rfl ?_ ?_)|refine X1 (W2 rfl ?_ ?_)|refine X2 (W7 rfl ?_ ?_)|refine X3 (W7 rfl ?_ ?_)|refine X4 (W7 rfl ?_ ?_)|refine X5 (W7 rfl ?_ ?_))
 all_goals (try (conv => whnf))
 all_goals (try first|exact obA|refine Ob.mk ?_)
 all_goals (first | exact ⟨h1, h2, h3⟩ | exact ⟨h2, h3⟩ | rfl | trace_state)
end Go.Vc

namespace Go.Vc
open Go.Proofs
set_option maxRecDepth 100000
set_option maxHeartbeats 40000000
noncomputable abbrev BA : Base := { BB with al := true }
instance (priority := 100) fnA {f : FuncId} {args : List SV} {pre : Prop} {res : SV} [h : Fn BB f args pre res] : Fn BA f args pre res := ⟨h.call, h.ok⟩
instance (priority := 100) fnmA {f : FuncId} {args : List SV} {Φ : Phi} {pre : Prop} {res : SV} {Φ' : Phi} [h : FnM BB f args Φ pre res Φ'] : FnM BA f args Φ pre res Φ' := ⟨h.call, h.ok⟩
@[simp] theorem bytesA (t : TypeId) : bytesT BA.P t = bytesT BB.P t := rfl
noncomputable instance : Inl BA 17 := Inl.make (N := 49) [0, 1, 2, 3, 4, 14, 37, 42, 48] [(1, [1, 1, 1, 1, 1, 1, 1, 3, 3, 3])] Tryz.call17 Tryz.func17 rfl rfl (by kernel_rfl)
noncomputable instance : Inl BA 18 := Inl.make (N := 72) [0, 1, 2, 4, 5, 6, 7, 27, 32, 41, 46, 56, 61, 71] [] Tryz.call18 Tryz.func18 rfl rfl (by kernel_rfl)
noncomputable instance : Inl BA 19 := Inl.make (N := 65) [0, 1, 2, 3, 4, 5, 6, 7, 8, 9, 10, 11, 34, 49] [(5, [0, 1, 0, 1, 3])] Tryz.call19 Tryz.func19 rfl rfl (by kernel_rfl)
noncomputable instance : Inl BA 21 := Inl.make (N := 32) [0, 1, 2, 3, 4, 5, 12, 17, 31] [(6, [0, 1, 0, 1, 1, 0, 1, 0, 1, 1, 3, 3])] Tryz.call21 Tryz.func21 rfl rfl (by kernel_rfl)
noncomputable instance : Inl BA 26 := Inl.make (N := 60) [0, 1, 2, 4, 5, 6, 7, 8, 18, 36, 51] [(6, [0, 0, 0, 0, 0, 0, 0, 0, 6, 6])] Tryz.call26 Tryz.func26 rfl rfl (by kernel_rfl)
noncomputable instance : Inl BA 27 := Inl.make (N := 30) [0, 1, 2, 3, 6, 7, 17] [] Tryz.call27 Tryz.func27 rfl rfl (by kernel_rfl)
noncomputable instance : Inl BA 28 := Inl.make (N := 8) [0, 1, 2, 4] [] Tryz.call28 Tryz.func28 rfl rfl (by kernel_rfl)
noncomputable instance : Inl BA 33 := Inl.make (N := 19) [0, 1, 2, 3, 4, 9] [] Tryz.call33 Tryz.func33 rfl rfl (by kernel_rfl)
noncomputable instance : Inl BA 35 := Inl.make (N := 5) [0, 1, 2] [] Tryz.call35 Tryz.func35 rfl rfl (by kernel_rfl)
noncomputable instance : Inl BA 40 := Inl.make (N := 62) [0, 1, 3, 4, 5, 6, 7, 8, 9, 14, 34] [(10, [0, 0, 0, 1, 0, 0, 1, 1, 3, 3, 3, 3])] Tryz.call40 Tryz.func40 rfl rfl (by kernel_rfl)
noncomputable instance : Inl BA 42 := Inl.make (N := 61) [0, 1, 2, 4, 5, 6, 7, 8, 9, 25, 28, 35, 41, 54] [] Tryz.call42 Tryz.func42 rfl rfl (by kernel_rfl)
noncomputable instance : Inl BA 44 := Inl.make (N := 24) [0, 1, 4, 18] [] Tryz.call44 Tryz.func44 rfl rfl (by kernel_rfl)
noncomputable instance : Inl BA 47 := Inl.make (N := 48) [0, 1, 2, 4, 13, 31, 41, 47] [] Tryz.call47 Tryz.func47 rfl rfl (by kernel_rfl)
noncomputable instance : Inl BA 50 := Inl.make (N := 35) [0, 1, 4, 5, 6, 12, 16, 32] [] Tryz.call50 Tryz.func50 rfl rfl (by kernel_rfl)
noncomputable instance : Inl BA 52 := Inl.make (N := 67) [0, 1, 2, 3, 4, 8, 9, 28, 30, 35, 65] [] Tryz.call52 Tryz.func52 rfl rfl (by kernel_rfl)
noncomputable instance : Inl BA 53 := Inl.make (N := 26) [0, 1, 4, 5, 10, 14, 25] [(6, [0, 0, 1, 1, 0, 0, 1, 1, 3])] Tryz.call53 Tryz.func53 rfl rfl (by kernel_rfl)
noncomputable instance : Inl BA 55 := Inl.make (N := 90) [0, 1, 2, 3, 4, 5, 6, 7, 8, 9, 15, 30, 51] [(6, [0, 1, 0, 0, 1, 1, 1, 1, 1, 3]), (10, [1, 0, 1, 0, 1, 1, 1, 1, 0, 1, 0, 1, 1, 1, 3, 3]), (14, [0, 0, 0, 1, 1, 0, 1, 0, 1, 1, 1, 0, 0, 0, 1, 1, 1, 0, 0, 1, 1, 0, 1, 0, 1, 1, 1, 0, 0, 1, 1, 1, 3, 3, 3, 3])] Tryz.call55 Tryz.func55 rfl rfl (by kernel_rfl)
noncomputable instance : Inl BA 59 := Inl.make (N := 28) [0, 1, 4, 5, 7] [(5, [0, 0, 0, 1, 0, 0, 0, 0, 1, 1, 1, 1, 1, 1, 3, 3])] Tryz.call59 Tryz.func59 rfl rfl (by kernel_rfl)
noncomputable instance : Inl BA 70 := Inl.make (N := 95) [0, 1, 2, 4, 5, 6, 7, 18, 56, 80] [(8, [0, 0, 0, 1, 1, 1, 1, 1, 1, 1, 1, 1, 1, 1, 1, 1, 3, 3, 3, 3, 3])] Tryz.call70 Tryz.func70 rfl rfl (by kernel_rfl)
noncomputable instance : Inl BA 71 := Inl.make (N := 16) [0, 2, 3, 7, 13] [] Tryz.call71 Tryz.func71 rfl rfl (by kernel_rfl)
noncomputable instance : Inl BA 73 := Inl.make (N := 77) [0, 1, 2, 4, 5, 6, 21, 46, 51, 76] [] Tryz.call73 Tryz.func73 rfl rfl (by kernel_rfl)
noncomputable instance : Inl BA 74 := Inl.make (N := 4) [0] [] Tryz.call74 Tryz.func74 rfl rfl (by kernel_rfl)
noncomputable instance : Inl BA 75 := Inl.make (N := 21) [0, 1, 2, 5, 6, 7] [] Tryz.call75 Tryz.func75 rfl rfl (by kernel_rfl)
noncomputable instance : Inl BA 76 := Inl.make (N := 53) [0, 1, 2, 3, 4, 5, 12, 13, 14, 15, 16, 27, 34] [(7, [0, 1, 0, 0, 1, 1, 0, 0, 1, 1, 1, 1, 3, 0, 3])] Tryz.call76 Tryz.func76 rfl rfl (by kernel_rfl)
noncomputable instance : Inl BA 77 := Inl.make (N := 13) [0, 1, 2, 7] [] Tryz.call77 Tryz.func77 rfl rfl (by kernel_rfl)
noncomputable instance : Inl BA 78 := Inl.make (N := 68) [0, 1, 2, 6, 7, 8, 9, 13, 34, 44] [(10, [0, 0, 0, 1, 0, 1, 1, 1, 0, 1, 0, 1, 1, 1, 0, 1, 0, 1, 1, 1, 3])] Tryz.call78 Tryz.func78 rfl rfl (by kernel_rfl)
noncomputable instance : Inl BA 79 := Inl.make (N := 64) [0, 1, 2, 3, 4, 7, 10, 11, 20, 47] [(7, [0, 0, 0, 0, 1, 0, 1, 1, 1, 1, 0, 0, 3])] Tryz.call79 Tryz.func79 rfl rfl (by kernel_rfl)
noncomputable instance : Inl BA 82 := Inl.make (N := 71) [0, 1, 2, 3, 4, 5, 47, 52, 65] [(6, [0, 1, 0, 1, 1, 0, 1, 0, 1, 1, 3])] Tryz.call82 Tryz.func82 rfl rfl (by kernel_rfl)
noncomputable instance : Inl BA 85 := Inl.make (N := 15) [0, 1, 2, 4, 5] [] Tryz.call85 Tryz.func85 rfl rfl (by kernel_rfl)
noncomputable instance : Inl BA 87 := Inl.make (N := 65) [0, 1, 2, 3, 4, 8, 9, 10, 11, 21, 60] [(5, [0, 0, 0, 0, 0, 0, 0, 0, 6, 6]), (6, [0, 1, 1, 1, 1, 1, 1, 1, 1, 1, 1, 1, 1, 1, 1, 1, 1, 1, 1, 1, 1, 1, 1, 1, 1, 1, 1, 3, 3])] Tryz.call87 Tryz.func87 rfl rfl (by kernel_rfl)
noncomputable instance : Inl BA 92 := Inl.make (N := 68) [0, 1, 2, 4, 5, 6, 7, 8, 9, 10, 26, 35, 44, 52, 63] [(14, [0, 1, 0, 0, 1, 1, 3, 3, 3])] Tryz.call92 Tryz.func92 rfl rfl (by kernel_rfl)
noncomputable instance : Inl BA 93 := Inl.make (N := 19) [0, 1, 2, 4] [] Tryz.call93 Tryz.func93 rfl rfl (by kernel_rfl)
noncomputable instance : Inl BA 98 := Inl.make (N := 22) [0, 2, 3, 4, 8, 12] [] Tryz.call98 Tryz.func98 rfl rfl (by kernel_rfl)
noncomputable instance : Inl BA 100 := Inl.make (N := 58) [0, 1, 2, 4, 5, 6, 7, 12, 16, 24, 42] [(9, [0, 1, 1, 1, 1, 1, 1, 1, 1, 1, 3, 3, 3])] Tryz.call100 Tryz.func100 rfl rfl (by kernel_rfl)
noncomputable instance : Inl BA 101 := Inl.make (N := 19) [0, 1, 2, 4] [] Tryz.call101 Tryz.func101 rfl rfl (by kernel_rfl)
noncomputable instance : Inl BA 105 := Inl.make (N := 13) [0, 2, 3, 10] [] Tryz.call105 Tryz.func105 rfl rfl (by kernel_rfl)
noncomputable instance : Inl BA 109 := Inl.make (N := 8) [0, 1, 2, 4] [] Tryz.call109 Tryz.func109 rfl rfl (by kernel_rfl)
noncomputable instance : Inl BA 110 := Inl.make (N := 15) [0, 1, 2, 4, 5, 10] [] Tryz.call110 Tryz.func110 rfl rfl (by kernel_rfl)
noncomputable instance : Inl BA 114 := Inl.make (N := 34) [0, 2, 3, 4, 10] [] Tryz.call114 Tryz.func114 rfl rfl (by kernel_rfl)
noncomputable instance : Inl BA 115 := Inl.make (N := 46) [0, 1, 4, 5, 6, 7, 35, 42, 44, 45] [] Tryz.call115 Tryz.func115 rfl rfl (by kernel_rfl)
noncomputable instance : Inl BA 123 := Inl.make (N := 29) [0, 1, 2, 4, 5, 6, 7, 14] [(6, [0, 0, 1, 0, 0, 1, 1, 3, 3, 3, 3, 3])] Tryz.call123 Tryz.func123 rfl rfl (by kernel_rfl)
noncomputable instance : Inl BA 124 := Inl.make (N := 82) [0, 1, 3, 4, 5, 6, 7, 18, 23, 54, 60] [] Tryz.call124 Tryz.func124 rfl rfl (by kernel_rfl)
noncomputable instance : Inl BA 125 := Inl.make (N := 50) [0, 1, 2, 3, 4, 9, 31, 34, 49] [(4, [0, 1, 0, 1, 0, 1, 1, 1, 1, 1, 1, 1, 1, 1, 3, 3, 3, 3, 3, 3]), (9, [0, 1, 0, 1, 1, 1, 0, 1, 0, 1, 1, 1, 3])] Tryz.call125 Tryz.func125 rfl rfl (by kernel_rfl)
noncomputable instance : Inl BA 126 := Inl.make (N := 34) [0, 1, 4, 5, 26] [] Tryz.call126 Tryz.func126 rfl rfl (by kernel_rfl)
noncomputable instance : Inl BA 128 := Inl.make (N := 19) [0, 1, 2, 4] [] Tryz.call128 Tryz.func128 rfl rfl (by kernel_rfl)
noncomputable instance : Inl BA 129 := Inl.make (N := 13) [0, 2, 5] [] Tryz.call129 Tryz.func129 rfl rfl (by kernel_rfl)
noncomputable instance : Inl BA 130 := Inl.make (N := 8) [0, 2] [] Tryz.call130 Tryz.func130 rfl rfl (by kernel_rfl)
noncomputable instance : Inl BA 132 := Inl.make (N := 26) [0, 1, 4] [] Tryz.call132 Tryz.func132 rfl rfl (by kernel_rfl)
noncomputable instance : Inl BA 133 := Inl.make (N := 28) [0, 1, 3, 4] [(3, [0, 0, 0, 0, 1, 1, 1, 3, 0, 0, 3]), (5000003, [3])] Tryz.call133 Tryz.func133 rfl rfl (by kernel_rfl)
noncomputable instance : Inl BA 134 := Inl.make (N := 69) [0, 1, 2, 3, 8, 34] [(3, [0, 0, 0, 1, 0, 0, 0, 0, 1, 1, 1, 0, 1, 3, 3, 3])] Tryz.call134 Tryz.func134 rfl rfl (by kernel_rfl)
noncomputable instance : Inl BA 152 := Inl.make (N := 63) [0, 2, 3, 4, 5, 16, 42, 50, 58] [(4, [0, 0, 0, 0, 0, 0, 0, 0, 0, 0, 0, 0, 0, 0, 6, 6])] Tryz.call152 Tryz.func152 rfl rfl (by kernel_rfl)
noncomputable instance : Inl BA 154 := Inl.make (N := 43) [0, 1, 4, 5, 10] [(3, [0, 0, 0, 0, 1, 0, 0, 0, 1, 1, 3, 3, 3, 3]), (4, [0, 0, 0, 0, 7, 0, 0, 0, 0, 4, 4, 4, 4, 4, 4, 4, 4, 4, 4, 4]), (3000004, [649,714,779,844,909,974,1039,1104,1169,1234])] Tryz.call154 Tryz.func154 rfl rfl (by kernel_rfl)
noncomputable instance : Inl BA 155 := Inl.make (N := 57) [0, 1, 4, 15, 20, 35, 50] [] Tryz.call155 Tryz.func155 rfl rfl (by kernel_rfl)
noncomputable instance : Inl BA 159 := Inl.make (N := 19) [0, 1, 4, 6, 10] [] Tryz.call159 Tryz.func159 rfl rfl (by kernel_rfl)
noncomputable instance : Inl BA 160 := Inl.make (N := 19) [0, 1, 2] [] Tryz.call160 Tryz.func160 rfl rfl (by kernel_rfl)
noncomputable instance : Inl BA 161 := Inl.make (N := 55) [0, 2, 3, 4, 5, 6, 7, 8, 24, 31, 36, 42, 50] [(14, [1, 0, 0, 1, 1, 3])] Tryz.call161 Tryz.func161 rfl rfl (by kernel_rfl)
noncomputable instance : Inl BA 162 := Inl.make (N := 89) [0, 1, 3, 4, 5, 10, 24, 30, 48, 62, 79] [] Tryz.call162 Tryz.func162 rfl rfl (by kernel_rfl)
noncomputable instance : Inl BA 163 := Inl.make (N := 62) [0, 1, 4, 5, 6, 7, 9, 11, 14, 22, 26, 61] [] Tryz.call163 Tryz.func163 rfl rfl (by kernel_rfl)
noncomputable instance : Inl BA 164 := Inl.make (N := 16) [0, 2, 3, 7, 13] [] Tryz.call164 Tryz.func164 rfl rfl (by kernel_rfl)
noncomputable instance : Inl BA 165 := Inl.make (N := 15) [0, 2, 3, 7, 14] [] Tryz.call165 Tryz.func165 rfl rfl (by kernel_rfl)
noncomputable instance : Inl BA 167 := Inl.make (N := 64) [0, 2, 3, 4, 5, 6, 10, 26, 34, 50] [] Tryz.call167 Tryz.func167 rfl rfl (by kernel_rfl)
noncomputable instance : Inl BA 169 := Inl.make (N := 77) [0, 1, 4, 5, 6, 7, 14, 33, 38, 69] [] Tryz.call169 Tryz.func169 rfl rfl (by kernel_rfl)
noncomputable instance : Inl BA 182 := Inl.make (N := 71) [0, 1, 2, 3, 8, 9, 10, 11, 17, 25, 40, 42, 52, 58, 67, 69, 70] [] Tryz.call182 Tryz.func182 rfl rfl (by kernel_rfl)
noncomputable instance : Inl BA 184 := Inl.make (N := 93) [0, 1, 2, 3, 8, 9, 10, 11, 12, 14, 16, 18, 27, 39, 49, 57, 71] [] Tryz.call184 Tryz.func184 rfl rfl (by kernel_rfl)
noncomputable instance : Inl BA 185 := Inl.make (N := 38) [0, 2, 3, 16, 28] [] Tryz.call185 Tryz.func185 rfl rfl (by kernel_rfl)
noncomputable instance : Inl BA 186 := Inl.make (N := 77) [0, 1, 3, 4, 5, 23, 45, 63] [] Tryz.call186 Tryz.func186 rfl rfl (by kernel_rfl)
noncomputable instance : Inl BA 187 := Inl.make (N := 132) [0, 1, 4, 5, 6, 11, 22, 40, 44, 50, 73, 94, 115] [(11, [0, 0, 0, 0, 1, 0, 0, 0, 1, 1, 1, 1, 1, 3]), (13, [0, 1, 0, 0, 0, 1, 0, 0, 0, 1, 1, 1, 1, 3, 0, 0, 3]), (20, [0, 1, 0, 0, 0, 1, 0, 0, 0, 1, 1, 1, 1, 3, 0, 0, 3])] Tryz.call187 Tryz.func187 rfl rfl (by kernel_rfl)
noncomputable instance : Inl BA 188 := Inl.make (N := 92) [0, 1, 4, 9, 22, 33, 41, 46, 72, 77, 85] [] Tryz.call188 Tryz.func188 rfl rfl (by kernel_rfl)
noncomputable instance : Inl BA 189 := Inl.make (N := 55) [0, 1, 4, 9, 17, 25, 33, 41] [] Tryz.call189 Tryz.func189 rfl rfl (by kernel_rfl)
noncomputable instance : Inl BA 190 := Inl.make (N := 109) [0, 1, 4, 16, 42, 56, 65, 76, 87, 95] [] Tryz.call190 Tryz.func190 rfl rfl (by kernel_rfl)
noncomputable instance : Inl BA 191 := Inl.make (N := 70) [0, 1, 4, 9, 17, 25, 33, 41, 49] [] Tryz.call191 Tryz.func191 rfl rfl (by kernel_rfl)
noncomputable instance : Inl BA 192 := Inl.make (N := 16) [0, 1, 2] [] Tryz.call192 Tryz.func192 rfl rfl (by kernel_rfl)
noncomputable instance : Inl BA 193 := Inl.make (N := 48) [0, 1, 2, 3, 4, 17] [] Tryz.call193 Tryz.func193 rfl rfl (by kernel_rfl)
noncomputable instance : Inl BA 194 := Inl.make (N := 33) [0, 1, 2, 6, 7, 12, 20, 32] [(6, [0, 0, 0, 1, 1, 1, 0, 0, 1, 1, 1, 3])] Tryz.call194 Tryz.func194 rfl rfl (by kernel_rfl)
noncomputable instance : Inl BA 197 := Inl.make (N := 15) [0, 2, 3, 7, 14] [] Tryz.call197 Tryz.func197 rfl rfl (by kernel_rfl)
noncomputable instance : Inl BA 198 := Inl.make (N := 27) [0, 2, 3, 8, 21, 26] [(4, [0, 0, 1, 1, 1, 0, 0, 1, 1, 1, 3])] Tryz.call198 Tryz.func198 rfl rfl (by kernel_rfl)
noncomputable instance : Inl BA 199 := Inl.make (N := 38) [0, 1, 4, 5, 10, 18, 37] [(6, [0, 0, 1, 1, 1, 0, 0, 1, 1, 1, 1, 1, 1, 1, 3, 3, 3, 3, 3])] Tryz.call199 Tryz.func199 rfl rfl (by kernel_rfl)
noncomputable instance : Inl BA 200 := Inl.make (N := 33) [0, 2, 3, 4, 10, 24] [] Tryz.call200 Tryz.func200 rfl rfl (by kernel_rfl)
noncomputable instance : Inl BA 201 := Inl.make (N := 70) [0, 2, 3, 4, 5, 6, 7, 8, 13, 19, 25, 31, 33, 35, 37, 39, 41, 44, 66] [] Tryz.call201 Tryz.func201 rfl rfl (by kernel_rfl)
noncomputable instance : Inl BA 202 := Inl.make (N := 20) [0, 2, 16] [] Tryz.call202 Tryz.func202 rfl rfl (by kernel_rfl)
noncomputable instance : Inl BA 211 := Inl.make (N := 23) [0, 1, 4, 5, 8, 22] [(4, [0, 0, 0, 1, 0, 0, 0, 1, 0, 1, 1, 3])] Tryz.call211 Tryz.func211 rfl rfl (by kernel_rfl)
noncomputable instance : Inl BA 212 := Inl.make (N := 72) [0, 1, 2, 6, 7, 8, 9, 10, 15, 25, 42, 57] [] Tryz.call212 Tryz.func212 rfl rfl (by kernel_rfl)
noncomputable instance : Inl BA 213 := Inl.make (N := 27) [0, 1, 4, 5, 6, 7, 8, 9, 17] [] Tryz.call213 Tryz.func213 rfl rfl (by kernel_rfl)
noncomputable instance : Inl BA 214 := Inl.make (N := 39) [0, 1, 4, 5, 6, 7, 8, 12, 22] [] Tryz.call214 Tryz.func214 rfl rfl (by kernel_rfl)
noncomputable instance : Inl BA 215 := Inl.make (N := 73) [0, 1, 4, 5, 6, 22, 24, 47] [(6, [0, 0, 0, 0, 0, 0, 0, 0, 0, 3, 3, 3])] Tryz.call215 Tryz.func215 rfl rfl (by kernel_rfl)
noncomputable instance : Inl BA 216 := Inl.make (N := 51) [0, 1, 2, 6, 18] [(4, [0, 0, 0, 0, 0, 0, 0, 0, 0, 3, 3, 3])] Tryz.call216 Tryz.func216 rfl rfl (by kernel_rfl)
noncomputable instance : Inl BA 217 := Inl.make (N := 51) [0, 1, 2, 4, 6, 8, 11, 22] [] Tryz.call217 Tryz.func217 rfl rfl (by kernel_rfl)
noncomputable instance : Inl BA 218 := Inl.make (N := 64) [0, 1, 4, 5, 6, 14, 35, 63] [(4, [0, 0, 0, 0, 1, 0, 0, 0, 1, 0, 1, 1, 1, 1, 1, 3]), (8, [0, 0, 0, 0, 1, 0, 0, 0, 1, 0, 0, 1, 1, 3, 3, 3, 3])] Tryz.call218 Tryz.func218 rfl rfl (by kernel_rfl)
noncomputable instance : Inl BA 219 := Inl.make (N := 50) [0, 1, 2, 4, 6, 7, 8, 9] [(2, [0, 0, 0, 0, 0, 1, 0, 1, 3, 3, 3])] Tryz.call219 Tryz.func219 rfl rfl (by kernel_rfl)
noncomputable instance : Inl BA 220 := Inl.make (N := 43) [0, 1, 2, 4, 5, 6, 7, 9, 17, 26] [] Tryz.call220 Tryz.func220 rfl rfl (by kernel_rfl)
noncomputable instance : Inl BA 221 := Inl.make (N := 100) [0, 2, 3, 4, 32, 55, 64] [(2, [0, 0, 0, 1, 1, 1, 1, 1, 1, 1, 1, 1, 1, 1, 1, 1, 1, 1, 3, 3, 3]), (3, [0, 0, 0, 1, 1, 1, 1, 1, 1, 1, 1, 1, 1, 1, 1, 1, 1, 1, 1, 1, 3, 3, 3]), (7, [0, 0, 0, 0, 0, 1, 0, 0, 0, 1, 0, 1, 1, 3, 3, 3, 3, 3]), (8, [0, 0, 0, 0, 1, 0, 0, 0, 1, 0, 1, 1, 0, 3, 0, 0, 3])] Tryz.call221 Tryz.func221 rfl rfl (by kernel_rfl)
noncomputable instance : Inl BA 222 := Inl.make (N := 124) [0, 1, 4, 5, 14, 20, 23, 38, 43, 47, 50, 57, 67, 73, 78, 81, 86, 89, 99] [(32, [0, 1, 0, 0, 0, 1, 0, 0, 0, 1, 1, 1, 1, 3, 0, 0, 3])] Tryz.call222 Tryz.func222 rfl rfl (by kernel_rfl)
noncomputable instance : Inl BA 223 := Inl.make (N := 73) [0, 1, 4, 17, 55] [(2, [0, 0, 0, 0, 1, 1, 1, 0, 0, 0, 1, 3]), (3, [0, 0, 0, 1, 1, 1, 1, 1, 1, 1, 1, 1, 1, 1, 1, 1, 1, 1, 1, 1, 1, 1, 1, 1, 3, 3]), (4, [0, 0, 0, 0, 1, 1, 1, 0, 0, 0, 1, 3])] Tryz.call223 Tryz.func223 rfl rfl (by kernel_rfl)
noncomputable instance : Inl BA 224 := Inl.make (N := 26) [0, 1, 4, 9, 14, 22] [] Tryz.call224 Tryz.func224 rfl rfl (by kernel_rfl)
noncomputable instance : Inl BA 225 := Inl.make (N := 78) [0, 1, 4, 5, 6, 7, 25, 34, 41, 50, 54, 63, 68, 74] [] Tryz.call225 Tryz.func225 rfl rfl (by kernel_rfl)
noncomputable instance : Inl BA 226 := Inl.make (N := 31) [0, 1, 4, 10, 15, 27] [] Tryz.call226 Tryz.func226 rfl rfl (by kernel_rfl)
noncomputable instance : Inl BA 227 := Inl.make (N := 34) [0, 1, 4, 10, 12, 24] [] Tryz.call227 Tryz.func227 rfl rfl (by kernel_rfl)
noncomputable instance : Inl BA 228 := Inl.make (N := 84) [0, 1, 4, 5, 6, 11, 19, 48, 76] [(6, [0, 0, 0, 0, 1, 0, 0, 0, 1, 0, 1, 1, 1, 1, 1, 3]), (7, [0, 0, 0, 1, 0, 0, 0, 1, 0, 1, 1, 0, 3]), (10, [0, 1, 0, 1, 1, 1, 1, 1, 1, 1, 1, 1, 1, 1, 1, 1, 1, 3, 3, 3])] Tryz.call228 Tryz.func228 rfl rfl (by kernel_rfl)
noncomputable instance : Inl BA 230 := Inl.make (N := 77) [0, 1, 4, 5, 23, 54] [(0, [0, 0, 0, 1, 0, 0, 0, 1, 3, 3]), (10, [0, 0, 0, 0, 1, 0, 0, 0, 1, 0, 3, 0, 0, 3])] Tryz.call230 Tryz.func230 rfl rfl (by kernel_rfl)
noncomputable instance : Inl BA 231 := Inl.make (N := 122) [0, 1, 4, 5, 15, 29, 37, 39, 53, 57, 65, 69, 82, 115] [] Tryz.call231 Tryz.func231 rfl rfl (by kernel_rfl)
noncomputable instance : Inl BA 232 := Inl.make (N := 90) [0, 1, 4, 20, 29, 34, 40, 45, 49, 55, 57, 62, 71, 76] [] Tryz.call232 Tryz.func232 rfl rfl (by kernel_rfl)
noncomputable instance : Inl BA 233 := Inl.make (N := 40) [0, 1, 4, 11, 14, 36] [] Tryz.call233 Tryz.func233 rfl rfl (by kernel_rfl)
noncomputable instance : Inl BA 234 := Inl.make (N := 68) [0, 1, 4, 5, 6, 11, 24, 31, 40, 45, 59] [] Tryz.call234 Tryz.func234 rfl rfl (by kernel_rfl)
noncomputable instance : Inl BA 235 := Inl.make (N := 55) [0, 1, 4, 5, 7, 18, 28, 44, 51] [] Tryz.call235 Tryz.func235 rfl rfl (by kernel_rfl)
noncomputable instance : Inl BA 236 := Inl.make (N := 45) [0, 1, 4, 6, 17, 25, 29, 41] [] Tryz.call236 Tryz.func236 rfl rfl (by kernel_rfl)
noncomputable instance : Inl BA 237 := Inl.make (N := 47) [0, 1, 4, 5, 7, 13, 26, 35, 39, 43] [] Tryz.call237 Tryz.func237 rfl rfl (by kernel_rfl)
noncomputable instance : Inl BA 238 := Inl.make (N := 18) [0, 1, 2, 6] [(1, [0, 0, 0, 1, 0, 0, 0, 1, 0, 0, 3, 3])] Tryz.call238 Tryz.func238 rfl rfl (by kernel_rfl)
noncomputable instance : Inl BA 240 := Inl.make (N := 63) [0, 1, 4, 9, 24, 31, 43, 50] [] Tryz.call240 Tryz.func240 rfl rfl (by kernel_rfl)
noncomputable instance : Inl BA 241 := Inl.make (N := 54) [0, 1, 4, 9, 35, 44, 51] [(2, [0, 1, 1, 1, 1, 1, 1, 1, 1, 1, 1, 1, 1, 1, 1, 1, 1, 1, 1, 3, 3])] Tryz.call241 Tryz.func241 rfl rfl (by kernel_rfl)
noncomputable instance : Inl BA 242 := Inl.make (N := 53) [0, 1, 4, 6, 7, 13, 18, 32] [(9, [0, 0, 0, 0, 0, 0, 3, 3, 3, 3]), (10, [0, 0, 0, 0, 0, 0, 0, 3, 3, 0, 3])] Tryz.call242 Tryz.func242 rfl rfl (by kernel_rfl)
noncomputable instance : Inl BA 243 := Inl.make (N := 57) [0, 1, 4, 6, 23, 28, 49] [] Tryz.call243 Tryz.func243 rfl rfl (by kernel_rfl)
noncomputable instance : Inl BA 244 := Inl.make (N := 55) [0, 1, 4, 6, 7, 8, 18, 25, 41] [] Tryz.call244 Tryz.func244 rfl rfl (by kernel_rfl)
noncomputable instance : Inl BA 245 := Inl.make (N := 64) [0, 1, 4, 5, 6, 7, 8, 35, 42, 46] [] Tryz.call245 Tryz.func245 rfl rfl (by kernel_rfl)
noncomputable instance : Inl BA 246 := Inl.make (N := 109) [0, 1, 4, 5, 6, 7, 8, 35, 42, 56, 101] [(8, [0, 0, 0, 1, 1, 1, 1, 1, 1, 1, 1, 3, 3]), (9, [0, 1, 0, 0, 0, 1, 1, 0, 0, 0, 1, 1, 3, 0, 0, 3]), (11, [0, 0, 0, 0, 1, 0, 0, 0, 1, 3, 0, 0, 3])] Tryz.call246 Tryz.func246 rfl rfl (by kernel_rfl)
noncomputable instance : Inl BA 247 := Inl.make (N := 45) [0, 1, 4, 9, 27] [] Tryz.call247 Tryz.func247 rfl rfl (by kernel_rfl)
noncomputable instance : Inl BA 248 := Inl.make (N := 117) [0, 1, 4, 5, 6, 7, 19, 36, 54, 66, 74, 81, 86, 105, 110] [(2, [0, 0, 0, 0, 1, 0, 0, 0, 1, 1, 1, 3])] Tryz.call248 Tryz.func248 rfl rfl (by kernel_rfl)
noncomputable instance : Inl BA 249 := Inl.make (N := 10) [0, 1, 4] [] Tryz.call249 Tryz.func249 rfl rfl (by kernel_rfl)
noncomputable instance : Inl BA 259 := Inl.make (N := 37) [0, 1, 2, 6, 7, 9, 11, 20, 26, 33] [] Tryz.call259 Tryz.func259 rfl rfl (by kernel_rfl)
noncomputable instance : Inl BA 260 := Inl.make (N := 151) [0, 2, 3, 4, 5, 6, 7, 8, 9, 10, 19, 36, 61, 76, 103, 117, 122, 130, 141] [] Tryz.call260 Tryz.func260 rfl rfl (by kernel_rfl)
noncomputable instance : Inl BA 261 := Inl.make (N := 92) [0, 1, 4, 5, 6, 7, 9, 28, 38, 42, 57, 64, 71, 85] [] Tryz.call261 Tryz.func261 rfl rfl (by kernel_rfl)
noncomputable instance : Inl BA 262 := Inl.make (N := 77) [0, 1, 4, 5, 6, 7, 8, 15, 23, 33, 45, 73] [] Tryz.call262 Tryz.func262 rfl rfl (by kernel_rfl)
noncomputable instance : Inl BA 263 := Inl.make (N := 126) [0, 1, 4, 5, 6, 7, 8, 20, 31, 69, 114] [(2, [0, 0, 0, 1, 0, 0, 0, 1, 3, 3]), (4, [0, 0, 0, 1, 1, 1, 0, 0, 0, 0, 1, 0, 0, 0, 1, 1, 1, 1, 1, 1, 1, 1, 3]), (5, [0, 0, 0, 0, 1, 0, 0, 0, 1, 0, 1, 1, 3, 3, 3, 3]), (7, [0, 0, 0, 0, 1, 0, 0, 0, 1, 0, 1, 1, 3, 0, 3]), (9, [0, 0, 0, 0, 0, 3, 0, 3, 3, 3, 3, 0, 3]), (12, [0, 0, 0, 0, 0, 3, 0, 3, 3, 3, 3, 0, 3])] Tryz.call263 Tryz.func263 rfl rfl (by kernel_rfl)
noncomputable instance : Inl BA 265 := Inl.make (N := 24) [0, 1, 4, 5, 9, 18] [] Tryz.call265 Tryz.func265 rfl rfl (by kernel_rfl)
noncomputable instance : Inl BA 267 := Inl.make (N := 8) [0, 1, 2] [] Tryz.call267 Tryz.func267 rfl rfl (by kernel_rfl)
noncomputable instance : Inl BA 268 := Inl.make (N := 29) [0, 1, 2, 6, 7, 8, 15, 23] [] Tryz.call268 Tryz.func268 rfl rfl (by kernel_rfl)
noncomputable instance : Inl BA 269 := Inl.make (N := 20) [0, 1, 2, 3, 8, 13] [] Tryz.call269 Tryz.func269 rfl rfl (by kernel_rfl)
noncomputable instance : Inl BA 270 := Inl.make (N := 28) [0, 2, 16] [] Tryz.call270 Tryz.func270 rfl rfl (by kernel_rfl)
noncomputable instance : Inl BA 271 := Inl.make (N := 6) [0] [] Tryz.call271 Tryz.func271 rfl rfl (by kernel_rfl)
noncomputable instance : Inl BA 272 := Inl.make (N := 1) [0] [] Tryz.call272 Tryz.func272 rfl rfl (by kernel_rfl)
noncomputable instance : Inl BA 273 := Inl.make (N := 206) [0, 1, 4, 5, 6, 7, 8, 9, 10, 11, 12, 13, 14, 15, 16, 33, 38, 52, 60, 73, 78, 166] [(8, [0, 0, 0, 1, 0, 0, 0, 1, 0, 3, 3]), (22, [0, 0, 0, 1, 0, 1, 1, 0, 0, 0, 1, 0, 0, 1, 1, 1, 1, 3]), (34, [0, 0, 0, 0, 1, 0, 0, 0, 1, 0, 1, 1, 0, 3, 0, 0, 3]), (5000019, [2000])] Tryz.call273 Tryz.func273 rfl rfl (by kernel_rfl)
noncomputable instance : Inl BA 274 := Inl.make (N := 72) [0, 1, 4, 5, 6, 14, 30, 41, 71] [(9, [0, 0, 0, 0, 1, 0, 1, 1, 1, 0, 0, 0, 0, 1, 0, 1, 1, 1, 3])] Tryz.call274 Tryz.func274 rfl rfl (by kernel_rfl)
noncomputable instance : Inl BA 275 := Inl.make (N := 11) [0, 2] [] Tryz.call275 Tryz.func275 rfl rfl (by kernel_rfl)
noncomputable instance : Inl BA 276 := Inl.make (N := 35) [0, 1, 2, 6, 10] [(3, [0, 0, 0, 0, 1, 0, 0, 0, 0, 0, 1, 0, 1, 1, 1, 0, 0, 1, 1, 1, 3, 3, 3])] Tryz.call276 Tryz.func276 rfl rfl (by kernel_rfl)
noncomputable instance : Inl BA 277 := Inl.make (N := 11) [0, 1] [] Tryz.call277 Tryz.func277 rfl rfl (by kernel_rfl)
noncomputable instance : Inl BA 278 := Inl.make (N := 27) [0, 1] [] Tryz.call278 Tryz.func278 rfl rfl (by kernel_rfl)
noncomputable instance : Inl BA 279 := Inl.make (N := 6) [0, 3] [] Tryz.call279 Tryz.func279 rfl rfl (by kernel_rfl)
noncomputable instance : Inl BA 280 := Inl.make (N := 16) [0, 1, 4] [(1, [0, 0, 0, 1, 0, 0, 0, 1, 1, 0, 3, 3])] Tryz.call280 Tryz.func280 rfl rfl (by kernel_rfl)
noncomputable instance : Inl BA 283 := Inl.make (N := 64) [0, 1, 2, 3, 6, 7, 14, 59] [(4, [1, 0, 0, 1, 1, 1, 1, 1, 1, 1, 1, 1, 1, 1, 1, 1, 1, 1, 1, 1, 1, 1, 1, 1, 1, 1, 1, 1, 1, 1, 1, 1, 1, 1, 1, 1, 1, 1, 1, 1, 1, 3, 3])] Tryz.call283 Tryz.func283 rfl rfl (by kernel_rfl)
noncomputable instance : Inl BA 284 := Inl.make (N := 27) [0, 1, 4, 5, 6, 10, 18] [] Tryz.call284 Tryz.func284 rfl rfl (by kernel_rfl)
noncomputable instance : Inl BA 285 := Inl.make (N := 31) [0, 1, 4, 5, 6, 10, 22] [] Tryz.call285 Tryz.func285 rfl rfl (by kernel_rfl)
noncomputable instance : Inl BA 286 := Inl.make (N := 55) [0, 1, 2, 3, 6, 7, 8, 9, 10, 11, 18, 27, 34, 43] [(5, [1, 0, 0, 1, 1, 0, 3])] Tryz.call286 Tryz.func286 rfl rfl (by kernel_rfl)
noncomputable instance : Inl BA 287 := Inl.make (N := 12) [0, 1, 4] [] Tryz.call287 Tryz.func287 rfl rfl (by kernel_rfl)
noncomputable instance : Inl BA 288 := Inl.make (N := 28) [0, 1, 4, 9] [] Tryz.call288 Tryz.func288 rfl rfl (by kernel_rfl)
noncomputable instance : Inl BA 289 := Inl.make (N := 18) [0, 1, 4] [] Tryz.call289 Tryz.func289 rfl rfl (by kernel_rfl)
noncomputable instance : Inl BA 290 := Inl.make (N := 1) [0] [] Tryz.call290 Tryz.func290 rfl rfl (by kernel_rfl)
noncomputable instance : Inl BA 291 := Inl.make (N := 50) [0, 1, 4, 11, 23, 33, 41] [] Tryz.call291 Tryz.func291 rfl rfl (by kernel_rfl)
noncomputable instance : Inl BA 292 := Inl.make (N := 10) [0, 2, 5] [] Tryz.call292 Tryz.func292 rfl rfl (by kernel_rfl)
noncomputable instance : Inl BA 293 := Inl.make (N := 18) [0, 1, 4] [] Tryz.call293 Tryz.func293 rfl rfl (by kernel_rfl)
noncomputable instance : Inl BA 294 := Inl.make (N := 22) [0, 2, 3, 4] [] Tryz.call294 Tryz.func294 rfl rfl (by kernel_rfl)
noncomputable instance : Inl BA 295 := Inl.make (N := 18) [0] [(0, [0, 1, 0, 0, 0, 1, 0, 0, 0, 1, 1, 1, 1, 3, 0, 0, 3])] Tryz.call295 Tryz.func295 rfl rfl (by kernel_rfl)
noncomputable instance : Inl BA 296 := Inl.make (N := 16) [0, 1, 4, 5] [] Tryz.call296 Tryz.func296 rfl rfl (by kernel_rfl)
noncomputable instance : Inl BA 297 := Inl.make (N := 23) [0, 2, 3, 4, 14] [(4, [0, 0, 0, 0, 0, 0, 0, 0])] Tryz.call297 Tryz.func297 rfl rfl (by kernel_rfl)
noncomputable instance : Inl BA 299 := Inl.make (N := 13) [0, 1, 2, 4] [] Tryz.call299 Tryz.func299 rfl rfl (by kernel_rfl)
noncomputable instance : Inl BA 300 := Inl.make (N := 22) [0, 1, 2, 3, 8, 12] [] Tryz.call300 Tryz.func300 rfl rfl (by kernel_rfl)
noncomputable instance : Inl BA 301 := Inl.make (N := 13) [0] [] Tryz.call301 Tryz.func301 rfl rfl (by kernel_rfl)
noncomputable instance : Inl BA 302 := Inl.make (N := 20) [0, 1] [] Tryz.call302 Tryz.func302 rfl rfl (by kernel_rfl)
noncomputable instance : Inl BA 305 := Inl.make (N := 31) [0, 1, 14] [(1, [0, 1, 0, 0, 0, 1, 0, 0, 0, 1, 1, 1, 1, 3, 0, 0, 3])] Tryz.call305 Tryz.func305 rfl rfl (by kernel_rfl)
noncomputable instance : Inl BA 306 := Inl.make (N := 10) [0, 2, 5] [] Tryz.call306 Tryz.func306 rfl rfl (by kernel_rfl)
noncomputable instance : Inl BA 307 := Inl.make (N := 26) [0, 2, 3, 4, 5, 10] [] Tryz.call307 Tryz.func307 rfl rfl (by kernel_rfl)
noncomputable instance : Inl BA 308 := Inl.make (N := 19) [0, 1, 4] [] Tryz.call308 Tryz.func308 rfl rfl (by kernel_rfl)
noncomputable instance : Inl BA 309 := Inl.make (N := 9) [0, 1, 4] [] Tryz.call309 Tryz.func309 rfl rfl (by kernel_rfl)
noncomputable instance : Inl BA 310 := Inl.make (N := 44) [0, 1, 4, 5, 10, 28] [] Tryz.call310 Tryz.func310 rfl rfl (by kernel_rfl)
noncomputable instance : Inl BA 311 := Inl.make (N := 24) [0, 7] [(1, [0, 1, 0, 0, 0, 1, 0, 0, 0, 1, 1, 1, 1, 3, 0, 0, 3])] Tryz.call311 Tryz.func311 rfl rfl (by kernel_rfl)
noncomputable instance : Inl BA 312 := Inl.make (N := 1) [0] [] Tryz.call312 Tryz.func312 rfl rfl (by kernel_rfl)
noncomputable instance : Inl BA 315 := Inl.make (N := 53) [0, 1, 4, 5, 6, 7, 11, 21, 28, 36, 42, 48] [] Tryz.call315 Tryz.func315 rfl rfl (by kernel_rfl)
noncomputable instance : Inl BA 316 := Inl.make (N := 51) [0, 1, 4, 5, 34] [] Tryz.call316 Tryz.func316 rfl rfl (by kernel_rfl)
noncomputable instance : Inl BA 317 := Inl.make (N := 17) [0, 2] [] Tryz.call317 Tryz.func317 rfl rfl (by kernel_rfl)
noncomputable instance : Inl BA 318 := Inl.make (N := 18) [0, 1, 4, 14] [] Tryz.call318 Tryz.func318 rfl rfl (by kernel_rfl)
noncomputable instance : Inl BA 319 := Inl.make (N := 82) [0, 1, 4, 5, 6, 7, 8, 9, 10, 11, 42, 63] [] Tryz.call319 Tryz.func319 rfl rfl (by kernel_rfl)
noncomputable instance : Inl BA 321 := Inl.make (N := 18) [0, 1, 4] [] Tryz.call321 Tryz.func321 rfl rfl (by kernel_rfl)
noncomputable instance : Inl BA 322 := Inl.make (N := 51) [0, 2, 3, 4, 5, 6, 7, 10, 13, 28, 44] [] Tryz.call322 Tryz.func322 rfl rfl (by kernel_rfl)
noncomputable instance : Inl BA 323 := Inl.make (N := 46) [0, 2, 3, 4, 5, 6, 7, 20, 33] [] Tryz.call323 Tryz.func323 rfl rfl (by kernel_rfl)
noncomputable instance : Inl BA 324 := Inl.make (N := 30) [0, 1, 2, 6, 7, 15, 26] [] Tryz.call324 Tryz.func324 rfl rfl (by kernel_rfl)
noncomputable instance : Inl BA 325 := Inl.make (N := 21) [0, 1, 4, 5, 6, 7] [] Tryz.call325 Tryz.func325 rfl rfl (by kernel_rfl)
noncomputable instance : Inl BA 326 := Inl.make (N := 64) [0, 2, 3, 4, 5, 6, 7, 8, 21, 26, 37, 48, 58] [] Tryz.call326 Tryz.func326 rfl rfl (by kernel_rfl)
noncomputable instance : Inl BA 327 := Inl.make (N := 44) [0, 2, 3, 4, 5, 6, 7, 15, 38] [] Tryz.call327 Tryz.func327 rfl rfl (by kernel_rfl)
noncomputable instance : Inl BA 328 := Inl.make (N := 13) [0, 2] [] Tryz.call328 Tryz.func328 rfl rfl (by kernel_rfl)
noncomputable instance : Inl BA 331 := Inl.make (N := 45) [0, 1, 4, 5, 6, 14, 25, 44] [(6, [0, 0, 0, 0, 1, 0, 0, 0, 1, 0, 1, 1, 1, 1, 1, 3])] Tryz.call331 Tryz.func331 rfl rfl (by kernel_rfl)
noncomputable instance : Inl BA 332 := Inl.make (N := 37) [0, 1, 4, 5, 6, 15, 36] [(4, [0, 0, 0, 0, 1, 0, 0, 0, 1, 0, 1, 1, 1, 1, 1, 3])] Tryz.call332 Tryz.func332 rfl rfl (by kernel_rfl)
noncomputable instance : Inl BA 333 := Inl.make (N := 38) [0, 1, 4, 5, 6, 15, 36] [(4, [0, 0, 0, 0, 1, 0, 0, 0, 1, 0, 1, 1, 1, 1, 1, 3])] Tryz.call333 Tryz.func333 rfl rfl (by kernel_rfl)
noncomputable instance : Inl BA 334 := Inl.make (N := 119) [0, 1, 2, 3, 8, 9, 10, 11, 12, 13, 14, 15, 36, 50, 62, 71, 106] [] Tryz.call334 Tryz.func334 rfl rfl (by kernel_rfl)
noncomputable instance : Inl BA 335 := Inl.make (N := 25) [0, 1, 4, 5] [(2, [0, 0, 0, 0, 1, 0, 1, 0, 1, 3, 3, 3])] Tryz.call335 Tryz.func335 rfl rfl (by kernel_rfl)
noncomputable instance : Inl BA 336 := Inl.make (N := 89) [0, 1, 2, 6, 7, 29, 41, 51] [(5, [0, 0, 1, 0, 0, 1, 1, 3]), (6, [0, 0, 0, 1, 0, 0, 1, 1, 0, 3, 3, 3]), (7, [0, 0, 0, 1, 0, 1, 0, 0, 0, 1, 0, 1, 1, 1, 1, 0, 1, 3, 3, 3])] Tryz.call336 Tryz.func336 rfl rfl (by kernel_rfl)
noncomputable instance : Inl BA 337 := Inl.make (N := 22) [0, 1, 2] [(0, [0, 0, 0, 0, 0, 0, 0, 0, 3, 0, 3, 3, 3, 3, 0, 3])] Tryz.call337 Tryz.func337 rfl rfl (by kernel_rfl)
noncomputable instance : Inl BA 338 := Inl.make (N := 24) [0, 1, 2, 6] [(2, [1, 0, 0, 0, 1, 0, 1, 3, 0, 0, 0, 3, 3])] Tryz.call338 Tryz.func338 rfl rfl (by kernel_rfl)
noncomputable instance : Inl BA 339 := Inl.make (N := 18) [0, 2, 3, 8, 15] [] Tryz.call339 Tryz.func339 rfl rfl (by kernel_rfl)
noncomputable instance : Inl BA 341 := Inl.make (N := 14) [0, 1, 2, 4] [] Tryz.call341 Tryz.func341 rfl rfl (by kernel_rfl)
noncomputable instance : Inl BA 342 := Inl.make (N := 48) [0, 1, 2, 3, 6, 7, 8, 18] [(3, [0, 1, 0, 1, 1, 0, 1, 0, 1, 1, 1, 1, 1, 3])] Tryz.call342 Tryz.func342 rfl rfl (by kernel_rfl)
noncomputable instance : Inl BA 344 := Inl.make (N := 18) [0, 1, 4] [] Tryz.call344 Tryz.func344 rfl rfl (by kernel_rfl)
noncomputable instance : Inl BA 345 := Inl.make (N := 31) [0, 2] [] Tryz.call345 Tryz.func345 rfl rfl (by kernel_rfl)
noncomputable instance : Inl BA 346 := Inl.make (N := 72) [0, 1, 4, 5, 6, 7, 8, 12, 23, 29, 38, 64] [(7, [0, 0, 0, 0, 0, 0, 0])] Tryz.call346 Tryz.func346 rfl rfl (by kernel_rfl)
noncomputable instance : Inl BA 347 := Inl.make (N := 52) [0, 2, 13, 29, 45] [] Tryz.call347 Tryz.func347 rfl rfl (by kernel_rfl)
noncomputable instance : Inl BA 348 := Inl.make (N := 32) [0, 2, 8, 17, 27] [] Tryz.call348 Tryz.func348 rfl rfl (by kernel_rfl)
noncomputable instance : Inl BA 349 := Inl.make (N := 29) [0, 2, 3, 4, 5, 11, 19, 26] [] Tryz.call349 Tryz.func349 rfl rfl (by kernel_rfl)
noncomputable instance : Inl BA 350 := Inl.make (N := 4) [0, 1] [] Tryz.call350 Tryz.func350 rfl rfl (by kernel_rfl)
noncomputable instance : Inl BA 352 := Inl.make (N := 20) [0, 1, 4] [] Tryz.call352 Tryz.func352 rfl rfl (by kernel_rfl)
noncomputable instance : Inl BA 353 := Inl.make (N := 34) [0, 1, 4, 5, 6, 7, 11, 17, 33] [(8, [0, 0, 1, 1, 1, 1, 1, 1, 1, 1, 3, 3, 3])] Tryz.call353 Tryz.func353 rfl rfl (by kernel_rfl)
instance (priority := 3000) xkHas (t : List NodeD) (l : List Int) (nm : List UInt8) (sc : Int) : Fn BA 303 [.agg [.rd nodeTy t], .rd intTy l, .str nm, .int .i64 sc] (shortB t = true ∧ nm.length ≤ 100000) (.bool (hasS t l nm sc)) := ⟨(s51 t l nm sc).call, fun h => (s51 t l nm sc).ok ⟨shortB_ok h.1, h.2⟩⟩
end Go.Vc

namespace Go.Vc
open Go.Proofs
set_option maxRecDepth 100000
set_option maxHeartbeats 40000000
set_option pp.deepTerms true
set_option pp.maxSteps 2000000
instance (priority := 5000) ZW_0 : FnM BA 154 [.loc 0 0, .loc 3 0] [(0, .box [.own 1, .own 2, .nils, .int .i64 5, .int .i64 0, .int .i64 0, .int .i64 0, .int .i64 0, .bool false, .bool false, .str [100, 105, 118]]), (1, .own nodeTy [((0 : Int), (0 : Int), ([] : List UInt8), ([] : List AttrD), ([] : List UInt8), (-1 : Int), ([1] : List Int)), ((1 : Int), (0 : Int), ([104, 116, 109, 108] : List UInt8), ([] : List AttrD), ([] : List UInt8), (0 : Int), ([] : List Int))]), (2, .own intTy [1]), (3, .box [.str (60 :: 105 :: 109 :: 103 :: 32 :: 110 :: 97 :: 109 :: 101 :: 61 :: 97 :: 32 :: 105 :: 100 :: 61 :: 98 :: 62 :: 60 :: 112 :: 32 :: 105 :: 100 :: 61 :: 97 :: 62 :: 60 :: 47 :: 112 :: 62 :: 60 :: 112 :: 32 :: 110 :: 97 :: 109 :: 101 :: 61 :: 98 :: 62 :: 60 :: 47 :: 112 :: 62 :: [])])] True (.agg [.int .i64 1, .str [105, 109, 103], .rd attrTy [([110, 97, 109, 101], [97]), ([105, 100], [98])], .bool false, .str []]) [(0, .box [.own 1, .own 2, .nils, .int .i64 5, .int .i64 0, .int .i64 0, .int .i64 0, .int .i64 0, .bool false, .bool false, .str [100, 105, 118]]), (1, .own nodeTy [((0 : Int), (0 : Int), ([] : List UInt8), ([] : List AttrD), ([] : List UInt8), (-1 : Int), ([1] : List Int)), ((1 : Int), (0 : Int), ([104, 116, 109, 108] : List UInt8), ([] : List AttrD), ([] : List UInt8), (0 : Int), ([] : List Int))]), (2, .own intTy [1]), (3, .box [.str [60, 112, 32, 105, 100, 61, 97, 62, 60, 47, 112, 62, 60, 112, 32, 110, 97, 109, 101, 61, 98, 62, 60, 47, 112, 62]])] := by
 refine FnM.intro (N := 43) [0, 1, 4, 5, 10] [(3, [0, 0, 0, 0, 1, 0, 0, 0, 1, 1, 3, 3, 3, 3]), (4, [0, 0, 0, 0, 7, 0, 0, 0, 0, 4, 4, 4, 4, 4, 4, 4, 4, 4, 4, 4]), (3000004, [649,714,779,844,909,974,1039,1104,1169,1234])] 4 Tryz.call154 Tryz.func154 rfl rfl (by kernel_rfl) (fun hpre => ?_)
 repeat' ((conv => whnf);first|(with_reducible first|rfl|exact absTF|exact absFT)|exact True.intro|(intro hq;first|(exfalso;revert hq;decide +kernel)|clear hq|skip)|refine And.intro ?_ ?_|refine Fin.mk ?_|refine W1 rfl ?_ ?_|refine W2 rfl ?_ ?_|refine W3 rfl ?_ ?_|refine W4 ?_ ?_|refine W5 rfl ?_ ?_|refine W6 ?_ ?_|refine AppN.mk ?_|refine X1 (W1 rfl ?_ ?_)|refine X1 (W2 rfl ?_ ?_)|refine X2 (W7 rfl ?_ ?_)|refine X3 (W7 rfl ?_ ?_)|refine X4 (W7 rfl ?_ ?_)|refine X5 (W7 rfl ?_ ?_)|refine X7 (by conv => lhs;cbv) rfl ?_|refine X8 (by conv => lhs;cbv) ?_|refine LoopStop.ug 500 ?_|refine ZStop.dir ?_|(refine Ob.mk ?_;decide +kernel))
 all_goals (first | rfl | decide +kernel)
end Go.Vc

namespace Go.Vc
open Go.Proofs
set_option maxRecDepth 100000
set_option maxHeartbeats 40000000
set_option pp.deepTerms true
set_option pp.maxSteps 2000000
instance (priority := 5000) ZW_1 : FnM BA 155 [.loc 0 0, .loc 3 0] [(0, .box [.own 1, .own 2, .nils, .int .i64 5, .int .i64 0, .int .i64 0, .int .i64 0, .int .i64 0, .bool false, .bool false, .str [100, 105, 118]]), (1, .own nodeTy [((0 : Int), (0 : Int), ([] : List UInt8), ([] : List AttrD), ([] : List UInt8), (-1 : Int), ([1] : List Int)), ((1 : Int), (0 : Int), ([104, 116, 109, 108] : List UInt8), ([] : List AttrD), ([] : List UInt8), (0 : Int), ([] : List Int))]), (2, .own intTy [1]), (3, .box [.int .i64 1, .str [105, 109, 103], .rd attrTy [([110, 97, 109, 101], [97]), ([105, 100], [98])], .bool false, .str []])] True (.bool false) [(0, .box [.own 1, .own 4, .nils, .int .i64 5, .int .i64 0, .int .i64 0, .int .i64 0, .int .i64 0, .bool false, .bool false, .str [100, 105, 118]]), (1, .own nodeTy [((0 : Int), (0 : Int), ([] : List UInt8), ([] : List AttrD), ([] : List UInt8), (-1 : Int), ([1] : List Int)), ((1 : Int), (0 : Int), ([104, 116, 109, 108] : List UInt8), ([] : List AttrD), ([] : List UInt8), (0 : Int), ([2] : List Int)), ((1 : Int), (0 : Int), ([105, 109, 103] : List UInt8), ([([110, 97, 109, 101], [97]), ([105, 100], [98])] : List AttrD), ([] : List UInt8), (1 : Int), ([] : List Int))]), (4, .own intTy [1]), (3, .box [.int .i64 1, .str [105, 109, 103], .rd attrTy [([110, 97, 109, 101], [97]), ([105, 100], [98])], .bool false, .str []])] := by
 refine FnM.intro (N := 57) [0, 1, 4, 15, 20, 35, 50] [] 4 Tryz.call155 Tryz.func155 rfl rfl (by kernel_rfl) (fun hpre => ?_)
 repeat' ((conv => whnf);first|(with_reducible first|rfl|exact absTF|exact absFT)|exact True.intro|(intro hq;first|(exfalso;revert hq;decide +kernel)|clear hq|skip)|refine And.intro ?_ ?_|refine Fin.mk ?_|refine W1 rfl ?_ ?_|refine W2 rfl ?_ ?_|refine W3 rfl ?_ ?_|refine W4 ?_ ?_|refine W5 rfl ?_ ?_|refine W6 ?_ ?_|refine AppN.mk ?_|refine X1 (W1 rfl ?_ ?_)|refine X1 (W2 rfl ?_ ?_)|refine X2 (W7 rfl ?_ ?_)|refine X3 (W7 rfl ?_ ?_)|refine X4 (W7 rfl ?_ ?_)|refine X5 (W7 rfl ?_ ?_)|refine X7 (by conv => lhs;cbv) rfl ?_|refine X8 (by conv => lhs;cbv) ?_|refine LoopStop.ug 500 ?_|refine ZStop.dir ?_|(refine Ob.mk ?_;decide +kernel))
 all_goals (first | rfl | decide +kernel)
end Go.Vc

namespace Go.Vc
open Go.Proofs
set_option maxRecDepth 100000
set_option maxHeartbeats 40000000
set_option pp.deepTerms true
set_option pp.maxSteps 2000000
instance (priority := 5000) ZW_2 : FnM BA 154 [.loc 0 0, .loc 3 0] [(0, .box [.own 1, .own 2, .nils, .int .i64 5, .int .i64 0, .int .i64 0, .int .i64 0, .int .i64 0, .bool false, .bool false, .str [100, 105, 118]]), (1, .own nodeTy [((0 : Int), (0 : Int), ([] : List UInt8), ([] : List AttrD), ([] : List UInt8), (-1 : Int), ([1] : List Int)), ((1 : Int), (0 : Int), ([104, 116, 109, 108] : List UInt8), ([] : List AttrD), ([] : List UInt8), (0 : Int), ([2] : List Int)), ((1 : Int), (0 : Int), ([105, 109, 103] : List UInt8), ([([110, 97, 109, 101], [97]), ([105, 100], [98])] : List AttrD), ([] : List UInt8), (1 : Int), ([] : List Int))]), (2, .own intTy [1]), (3, .box [.str [60, 112, 32, 105, 100, 61, 97, 62, 60, 47, 112, 62, 60, 112, 32, 110, 97, 109, 101, 61, 98, 62, 60, 47, 112, 62]])] True (.agg [.int .i64 1, .str [112], .rd attrTy [([105, 100], [97])], .bool false, .str []]) [(0, .box [.own 1, .own 2, .nils, .int .i64 5, .int .i64 0, .int .i64 0, .int .i64 0, .int .i64 0, .bool false, .bool false, .str [100, 105, 118]]), (1, .own nodeTy [((0 : Int), (0 : Int), ([] : List UInt8), ([] : List AttrD), ([] : List UInt8), (-1 : Int), ([1] : List Int)), ((1 : Int), (0 : Int), ([104, 116, 109, 108] : List UInt8), ([] : List AttrD), ([] : List UInt8), (0 : Int), ([2] : List Int)), ((1 : Int), (0 : Int), ([105, 109, 103] : List UInt8), ([([110, 97, 109, 101], [97]), ([105, 100], [98])] : List AttrD), ([] : List UInt8), (1 : Int), ([] : List Int))]), (2, .own intTy [1]), (3, .box [.str [60, 47, 112, 62, 60, 112, 32, 110, 97, 109, 101, 61, 98, 62, 60, 47, 112, 62]])] := by
 refine FnM.intro (N := 43) [0, 1, 4, 5, 10] [(3, [0, 0, 0, 0, 1, 0, 0, 0, 1, 1, 3, 3, 3, 3]), (4, [0, 0, 0, 0, 7, 0, 0, 0, 0, 4, 4, 4, 4, 4, 4, 4, 4, 4, 4, 4]), (3000004, [649,714,779,844,909,974,1039,1104,1169,1234])] 4 Tryz.call154 Tryz.func154 rfl rfl (by kernel_rfl) (fun hpre => ?_)
 repeat' ((conv => whnf);first|(with_reducible first|rfl|exact absTF|exact absFT)|exact True.intro|(intro hq;first|(exfalso;revert hq;decide +kernel)|clear hq|skip)|refine And.intro ?_ ?_|refine Fin.mk ?_|refine W1 rfl ?_ ?_|refine W2 rfl ?_ ?_|refine W3 rfl ?_ ?_|refine W4 ?_ ?_|refine W5 rfl ?_ ?_|refine W6 ?_ ?_|refine AppN.mk ?_|refine X1 (W1 rfl ?_ ?_)|refine X1 (W2 rfl ?_ ?_)|refine X2 (W7 rfl ?_ ?_)|refine X3 (W7 rfl ?_ ?_)|refine X4 (W7 rfl ?_ ?_)|refine X5 (W7 rfl ?_ ?_)|refine X7 (by conv => lhs;cbv) rfl ?_|refine X8 (by conv => lhs;cbv) ?_|refine LoopStop.ug 500 ?_|refine ZStop.dir ?_|(refine Ob.mk ?_;decide +kernel))
 all_goals (first | rfl | decide +kernel)
end Go.Vc

namespace Go.Vc
open Go.Proofs
set_option maxRecDepth 100000
set_option maxHeartbeats 40000000
set_option pp.deepTerms true
set_option pp.maxSteps 2000000
instance (priority := 5000) ZW_3 : FnM BA 155 [.loc 0 0, .loc 3 0] [(0, .box [.own 1, .own 2, .nils, .int .i64 5, .int .i64 0, .int .i64 0, .int .i64 0, .int .i64 0, .bool false, .bool false, .str [100, 105, 118]]), (1, .own nodeTy [((0 : Int), (0 : Int), ([] : List UInt8), ([] : List AttrD), ([] : List UInt8), (-1 : Int), ([1] : List Int)), ((1 : Int), (0 : Int), ([104, 116, 109, 108] : List UInt8), ([] : List AttrD), ([] : List UInt8), (0 : Int), ([2] : List Int)), ((1 : Int), (0 : Int), ([105, 109, 103] : List UInt8), ([([110, 97, 109, 101], [97]), ([105, 100], [98])] : List AttrD), ([] : List UInt8), (1 : Int), ([] : List Int))]), (2, .own intTy [1]), (3, .box [.int .i64 1, .str [112], .rd attrTy [([105, 100], [97])], .bool false, .str []])] True (.bool false) [(0, .box [.own 1, .own 4, .nils, .int .i64 5, .int .i64 0, .int .i64 0, .int .i64 0, .int .i64 0, .bool false, .bool false, .str [100, 105, 118]]), (1, .own nodeTy [((0 : Int), (0 : Int), ([] : List UInt8), ([] : List AttrD), ([] : List UInt8), (-1 : Int), ([1] : List Int)), ((1 : Int), (0 : Int), ([104, 116, 109, 108] : List UInt8), ([] : List AttrD), ([] : List UInt8), (0 : Int), ([2, 3] : List Int)), ((1 : Int), (0 : Int), ([105, 109, 103] : List UInt8), ([([110, 97, 109, 101], [97]), ([105, 100], [98])] : List AttrD), ([] : List UInt8), (1 : Int), ([] : List Int)), ((1 : Int), (0 : Int), ([112] : List UInt8), ([([105, 100], [97])] : List AttrD), ([] : List UInt8), (1 : Int), ([] : List Int))]), (4, .own intTy [1, 3]), (3, .box [.int .i64 1, .str [112], .rd attrTy [([105, 100], [97])], .bool false, .str []])] := by
 refine FnM.intro (N := 57) [0, 1, 4, 15, 20, 35, 50] [] 4 Tryz.call155 Tryz.func155 rfl rfl (by kernel_rfl) (fun hpre => ?_)
 repeat' ((conv => whnf);first|(with_reducible first|rfl|exact absTF|exact absFT)|exact True.intro|(intro hq;first|(exfalso;revert hq;decide +kernel)|clear hq|skip)|refine And.intro ?_ ?_|refine Fin.mk ?_|refine W1 rfl ?_ ?_|refine W2 rfl ?_ ?_|refine W3 rfl ?_ ?_|refine W4 ?_ ?_|refine W5 rfl ?_ ?_|refine W6 ?_ ?_|refine AppN.mk ?_|refine X1 (W1 rfl ?_ ?_)|refine X1 (W2 rfl ?_ ?_)|refine X2 (W7 rfl ?_ ?_)|refine X3 (W7 rfl ?_ ?_)|refine X4 (W7 rfl ?_ ?_)|refine X5 (W7 rfl ?_ ?_)|refine X7 (by conv => lhs;cbv) rfl ?_|refine X8 (by conv => lhs;cbv) ?_|refine LoopStop.ug 500 ?_|refine ZStop.dir ?_|(refine Ob.mk ?_;decide +kernel))
 all_goals (first | rfl | decide +kernel)
end Go.Vc

namespace Go.Vc
open Go.Proofs
set_option maxRecDepth 100000
set_option maxHeartbeats 40000000
set_option pp.deepTerms true
set_option pp.maxSteps 2000000
instance (priority := 5000) ZW_4 : FnM BA 154 [.loc 0 0, .loc 3 0] [(0, .box [.own 1, .own 2, .nils, .int .i64 5, .int .i64 0, .int .i64 0, .int .i64 0, .int .i64 0, .bool false, .bool false, .str [100, 105, 118]]), (1, .own nodeTy [((0 : Int), (0 : Int), ([] : List UInt8), ([] : List AttrD), ([] : List UInt8), (-1 : Int), ([1] : List Int)), ((1 : Int), (0 : Int), ([104, 116, 109, 108] : List UInt8), ([] : List AttrD), ([] : List UInt8), (0 : Int), ([2, 3] : List Int)), ((1 : Int), (0 : Int), ([105, 109, 103] : List UInt8), ([([110, 97, 109, 101], [97]), ([105, 100], [98])] : List AttrD), ([] : List UInt8), (1 : Int), ([] : List Int)), ((1 : Int), (0 : Int), ([112] : List UInt8), ([([105, 100], [97])] : List AttrD), ([] : List UInt8), (1 : Int), ([] : List Int))]), (2, .own intTy [1, 3]), (3, .box [.str [60, 47, 112, 62, 60, 112, 32, 110, 97, 109, 101, 61, 98, 62, 60, 47, 112, 62]])] True (.agg [.int .i64 2, .str [112], .nils, .bool false, .str []]) [(0, .box [.own 1, .own 2, .nils, .int .i64 5, .int .i64 0, .int .i64 0, .int .i64 0, .int .i64 0, .bool false, .bool false, .str [100, 105, 118]]), (1, .own nodeTy [((0 : Int), (0 : Int), ([] : List UInt8), ([] : List AttrD), ([] : List UInt8), (-1 : Int), ([1] : List Int)), ((1 : Int), (0 : Int), ([104, 116, 109, 108] : List UInt8), ([] : List AttrD), ([] : List UInt8), (0 : Int), ([2, 3] : List Int)), ((1 : Int), (0 : Int), ([105, 109, 103] : List UInt8), ([([110, 97, 109, 101], [97]), ([105, 100], [98])] : List AttrD), ([] : List UInt8), (1 : Int), ([] : List Int)), ((1 : Int), (0 : Int), ([112] : List UInt8), ([([105, 100], [97])] : List AttrD), ([] : List UInt8), (1 : Int), ([] : List Int))]), (2, .own intTy [1, 3]), (3, .box [.str [60, 112, 32, 110, 97, 109, 101, 61, 98, 62, 60, 47, 112, 62]])] := by
 refine FnM.intro (N := 43) [0, 1, 4, 5, 10] [(3, [0, 0, 0, 0, 1, 0, 0, 0, 1, 1, 3, 3, 3, 3]), (4, [0, 0, 0, 0, 7, 0, 0, 0, 0, 4, 4, 4, 4, 4, 4, 4, 4, 4, 4, 4]), (3000004, [649,714,779,844,909,974,1039,1104,1169,1234])] 4 Tryz.call154 Tryz.func154 rfl rfl (by kernel_rfl) (fun hpre => ?_)
 repeat' ((conv => whnf);first|(with_reducible first|rfl|exact absTF|exact absFT)|exact True.intro|(intro hq;first|(exfalso;revert hq;decide +kernel)|clear hq|skip)|refine And.intro ?_ ?_|refine Fin.mk ?_|refine W1 rfl ?_ ?_|refine W2 rfl ?_ ?_|refine W3 rfl ?_ ?_|refine W4 ?_ ?_|refine W5 rfl ?_ ?_|refine W6 ?_ ?_|refine AppN.mk ?_|refine X1 (W1 rfl ?_ ?_)|refine X1 (W2 rfl ?_ ?_)|refine X2 (W7 rfl ?_ ?_)|refine X3 (W7 rfl ?_ ?_)|refine X4 (W7 rfl ?_ ?_)|refine X5 (W7 rfl ?_ ?_)|refine X7 (by conv => lhs;cbv) rfl ?_|refine X8 (by conv => lhs;cbv) ?_|refine LoopStop.ug 500 ?_|refine ZStop.dir ?_|(refine Ob.mk ?_;decide +kernel))
 all_goals (first | rfl | decide +kernel)
end Go.Vc

namespace Go.Vc
open Go.Proofs
set_option maxRecDepth 100000
set_option maxHeartbeats 40000000
set_option pp.deepTerms true
set_option pp.maxSteps 2000000
instance (priority := 5000) ZW_5 : FnM BA 155 [.loc 0 0, .loc 3 0] [(0, .box [.own 1, .own 2, .nils, .int .i64 5, .int .i64 0, .int .i64 0, .int .i64 0, .int .i64 0, .bool false, .bool false, .str [100, 105, 118]]), (1, .own nodeTy [((0 : Int), (0 : Int), ([] : List UInt8), ([] : List AttrD), ([] : List UInt8), (-1 : Int), ([1] : List Int)), ((1 : Int), (0 : Int), ([104, 116, 109, 108] : List UInt8), ([] : List AttrD), ([] : List UInt8), (0 : Int), ([2, 3] : List Int)), ((1 : Int), (0 : Int), ([105, 109, 103] : List UInt8), ([([110, 97, 109, 101], [97]), ([105, 100], [98])] : List AttrD), ([] : List UInt8), (1 : Int), ([] : List Int)), ((1 : Int), (0 : Int), ([112] : List UInt8), ([([105, 100], [97])] : List AttrD), ([] : List UInt8), (1 : Int), ([] : List Int))]), (2, .own intTy [1, 3]), (3, .box [.int .i64 2, .str [112], .nils, .bool false, .str []])] True (.bool false) [(0, .box [.own 1, .own 2, .nils, .int .i64 5, .int .i64 0, .int .i64 0, .int .i64 0, .int .i64 0, .bool false, .bool false, .str [100, 105, 118]]), (1, .own nodeTy [((0 : Int), (0 : Int), ([] : List UInt8), ([] : List AttrD), ([] : List UInt8), (-1 : Int), ([1] : List Int)), ((1 : Int), (0 : Int), ([104, 116, 109, 108] : List UInt8), ([] : List AttrD), ([] : List UInt8), (0 : Int), ([2, 3] : List Int)), ((1 : Int), (0 : Int), ([105, 109, 103] : List UInt8), ([([110, 97, 109, 101], [97]), ([105, 100], [98])] : List AttrD), ([] : List UInt8), (1 : Int), ([] : List Int)), ((1 : Int), (0 : Int), ([112] : List UInt8), ([([105, 100], [97])] : List AttrD), ([] : List UInt8), (1 : Int), ([] : List Int))]), (2, .own intTy [1]), (3, .box [.int .i64 2, .str [112], .nils, .bool false, .str []])] := by
 refine FnM.intro (N := 57) [0, 1, 4, 15, 20, 35, 50] [] 4 Tryz.call155 Tryz.func155 rfl rfl (by kernel_rfl) (fun hpre => ?_)
 repeat' ((conv => whnf);first|(with_reducible first|rfl|exact absTF|exact absFT)|exact True.intro|(intro hq;first|(exfalso;revert hq;decide +kernel)|clear hq|skip)|refine And.intro ?_ ?_|refine Fin.mk ?_|refine W1 rfl ?_ ?_|refine W2 rfl ?_ ?_|refine W3 rfl ?_ ?_|refine W4 ?_ ?_|refine W5 rfl ?_ ?_|refine W6 ?_ ?_|refine AppN.mk ?_|refine X1 (W1 rfl ?_ ?_)|refine X1 (W2 rfl ?_ ?_)|refine X2 (W7 rfl ?_ ?_)|refine X3 (W7 rfl ?_ ?_)|refine X4 (W7 rfl ?_ ?_)|refine X5 (W7 rfl ?_ ?_)|refine X7 (by conv => lhs;cbv) rfl ?_|refine X8 (by conv => lhs;cbv) ?_|refine LoopStop.ug 500 ?_|refine ZStop.dir ?_|(refine Ob.mk ?_;decide +kernel))
 all_goals (first | rfl | decide +kernel)
end Go.Vc

namespace Go.Vc
open Go.Proofs
set_option maxRecDepth 100000
set_option maxHeartbeats 40000000
set_option pp.deepTerms true
set_option pp.maxSteps 2000000
instance (priority := 5000) ZW_6 : FnM BA 154 [.loc 0 0, .loc 3 0] [(0, .box [.own 1, .own 2, .nils, .int .i64 5, .int .i64 0, .int .i64 0, .int .i64 0, .int .i64 0, .bool false, .bool false, .str [100, 105, 118]]), (1, .own nodeTy [((0 : Int), (0 : Int), ([] : List UInt8), ([] : List AttrD), ([] : List UInt8), (-1 : Int), ([1] : List Int)), ((1 : Int), (0 : Int), ([104, 116, 109, 108] : List UInt8), ([] : List AttrD), ([] : List UInt8), (0 : Int), ([2, 3] : List Int)), ((1 : Int), (0 : Int), ([105, 109, 103] : List UInt8), ([([110, 97, 109, 101], [97]), ([105, 100], [98])] : List AttrD), ([] : List UInt8), (1 : Int), ([] : List Int)), ((1 : Int), (0 : Int), ([112] : List UInt8), ([([105, 100], [97])] : List AttrD), ([] : List UInt8), (1 : Int), ([] : List Int))]), (2, .own intTy [1]), (3, .box [.str [60, 112, 32, 110, 97, 109, 101, 61, 98, 62, 60, 47, 112, 62]])] True (.agg [.int .i64 1, .str [112], .rd attrTy [([110, 97, 109, 101], [98])], .bool false, .str []]) [(0, .box [.own 1, .own 2, .nils, .int .i64 5, .int .i64 0, .int .i64 0, .int .i64 0, .int .i64 0, .bool false, .bool false, .str [100, 105, 118]]), (1, .own nodeTy [((0 : Int), (0 : Int), ([] : List UInt8), ([] : List AttrD), ([] : List UInt8), (-1 : Int), ([1] : List Int)), ((1 : Int), (0 : Int), ([104, 116, 109, 108] : List UInt8), ([] : List AttrD), ([] : List UInt8), (0 : Int), ([2, 3] : List Int)), ((1 : Int), (0 : Int), ([105, 109, 103] : List UInt8), ([([110, 97, 109, 101], [97]), ([105, 100], [98])] : List AttrD), ([] : List UInt8), (1 : Int), ([] : List Int)), ((1 : Int), (0 : Int), ([112] : List UInt8), ([([105, 100], [97])] : List AttrD), ([] : List UInt8), (1 : Int), ([] : List Int))]), (2, .own intTy [1]), (3, .box [.str [60, 47, 112, 62]])] := by
 refine FnM.intro (N := 43) [0, 1, 4, 5, 10] [(3, [0, 0, 0, 0, 1, 0, 0, 0, 1, 1, 3, 3, 3, 3]), (4, [0, 0, 0, 0, 7, 0, 0, 0, 0, 4, 4, 4, 4, 4, 4, 4, 4, 4, 4, 4]), (3000004, [649,714,779,844,909,974,1039,1104,1169,1234])] 4 Tryz.call154 Tryz.func154 rfl rfl (by kernel_rfl) (fun hpre => ?_)
 repeat' ((conv => whnf);first|(with_reducible first|rfl|exact absTF|exact absFT)|exact True.intro|(intro hq;first|(exfalso;revert hq;decide +kernel)|clear hq|skip)|refine And.intro ?_ ?_|refine Fin.mk ?_|refine W1 rfl ?_ ?_|refine W2 rfl ?_ ?_|refine W3 rfl ?_ ?_|refine W4 ?_ ?_|refine W5 rfl ?_ ?_|refine W6 ?_ ?_|refine AppN.mk ?_|refine X1 (W1 rfl ?_ ?_)|refine X1 (W2 rfl ?_ ?_)|refine X2 (W7 rfl ?_ ?_)|refine X3 (W7 rfl ?_ ?_)|refine X4 (W7 rfl ?_ ?_)|refine X5 (W7 rfl ?_ ?_)|refine X7 (by conv => lhs;cbv) rfl ?_|refine X8 (by conv => lhs;cbv) ?_|refine LoopStop.ug 500 ?_|refine ZStop.dir ?_|(refine Ob.mk ?_;decide +kernel))
 all_goals (first | rfl | decide +kernel)
end Go.Vc

namespace Go.Vc
open Go.Proofs
set_option maxRecDepth 100000
set_option maxHeartbeats 40000000
set_option pp.deepTerms true
set_option pp.maxSteps 2000000
instance (priority := 5000) ZW_7 : FnM BA 155 [.loc 0 0, .loc 3 0] [(0, .box [.own 1, .own 2, .nils, .int .i64 5, .int .i64 0, .int .i64 0, .int .i64 0, .int .i64 0, .bool false, .bool false, .str [100, 105, 118]]), (1, .own nodeTy [((0 : Int), (0 : Int), ([] : List UInt8), ([] : List AttrD), ([] : List UInt8), (-1 : Int), ([1] : List Int)), ((1 : Int), (0 : Int), ([104, 116, 109, 108] : List UInt8), ([] : List AttrD), ([] : List UInt8), (0 : Int), ([2, 3] : List Int)), ((1 : Int), (0 : Int), ([105, 109, 103] : List UInt8), ([([110, 97, 109, 101], [97]), ([105, 100], [98])] : List AttrD), ([] : List UInt8), (1 : Int), ([] : List Int)), ((1 : Int), (0 : Int), ([112] : List UInt8), ([([105, 100], [97])] : List AttrD), ([] : List UInt8), (1 : Int), ([] : List Int))]), (2, .own intTy [1]), (3, .box [.int .i64 1, .str [112], .rd attrTy [([110, 97, 109, 101], [98])], .bool false, .str []])] True (.bool false) [(0, .box [.own 1, .own 4, .nils, .int .i64 5, .int .i64 0, .int .i64 0, .int .i64 0, .int .i64 0, .bool false, .bool false, .str [100, 105, 118]]), (1, .own nodeTy [((0 : Int), (0 : Int), ([] : List UInt8), ([] : List AttrD), ([] : List UInt8), (-1 : Int), ([1] : List Int)), ((1 : Int), (0 : Int), ([104, 116, 109, 108] : List UInt8), ([] : List AttrD), ([] : List UInt8), (0 : Int), ([2, 3, 4] : List Int)), ((1 : Int), (0 : Int), ([105, 109, 103] : List UInt8), ([([110, 97, 109, 101], [97]), ([105, 100], [98])] : List AttrD), ([] : List UInt8), (1 : Int), ([] : List Int)), ((1 : Int), (0 : Int), ([112] : List UInt8), ([([105, 100], [97])] : List AttrD), ([] : List UInt8), (1 : Int), ([] : List Int)), ((1 : Int), (0 : Int), ([112] : List UInt8), ([([110, 97, 109, 101], [98])] : List AttrD), ([] : List UInt8), (1 : Int), ([] : List Int))]), (4, .own intTy [1, 4]), (3, .box [.int .i64 1, .str [112], .rd attrTy [([110, 97, 109, 101], [98])], .bool false, .str []])] := by
 refine FnM.intro (N := 57) [0, 1, 4, 15, 20, 35, 50] [] 4 Tryz.call155 Tryz.func155 rfl rfl (by kernel_rfl) (fun hpre => ?_)
 repeat' ((conv => whnf);first|(with_reducible first|rfl|exact absTF|exact absFT)|exact True.intro|(intro hq;first|(exfalso;revert hq;decide +kernel)|clear hq|skip)|refine And.intro ?_ ?_|refine Fin.mk ?_|refine W1 rfl ?_ ?_|refine W2 rfl ?_ ?_|refine W3 rfl ?_ ?_|refine W4 ?_ ?_|refine W5 rfl ?_ ?_|refine W6 ?_ ?_|refine AppN.mk ?_|refine X1 (W1 rfl ?_ ?_)|refine X1 (W2 rfl ?_ ?_)|refine X2 (W7 rfl ?_ ?_)|refine X3 (W7 rfl ?_ ?_)|refine X4 (W7 rfl ?_ ?_)|refine X5 (W7 rfl ?_ ?_)|refine X7 (by conv => lhs;cbv) rfl ?_|refine X8 (by conv => lhs;cbv) ?_|refine LoopStop.ug 500 ?_|refine ZStop.dir ?_|(refine Ob.mk ?_;decide +kernel))
 all_goals (first | rfl | decide +kernel)
end Go.Vc

namespace Go.Vc
open Go.Proofs
set_option maxRecDepth 100000
set_option maxHeartbeats 40000000
set_option pp.deepTerms true
set_option pp.maxSteps 2000000
instance (priority := 5000) ZW_8 : FnM BA 154 [.loc 0 0, .loc 3 0] [(0, .box [.own 1, .own 2, .nils, .int .i64 5, .int .i64 0, .int .i64 0, .int .i64 0, .int .i64 0, .bool false, .bool false, .str [100, 105, 118]]), (1, .own nodeTy [((0 : Int), (0 : Int), ([] : List UInt8), ([] : List AttrD), ([] : List UInt8), (-1 : Int), ([1] : List Int)), ((1 : Int), (0 : Int), ([104, 116, 109, 108] : List UInt8), ([] : List AttrD), ([] : List UInt8), (0 : Int), ([2, 3, 4] : List Int)), ((1 : Int), (0 : Int), ([105, 109, 103] : List UInt8), ([([110, 97, 109, 101], [97]), ([105, 100], [98])] : List AttrD), ([] : List UInt8), (1 : Int), ([] : List Int)), ((1 : Int), (0 : Int), ([112] : List UInt8), ([([105, 100], [97])] : List AttrD), ([] : List UInt8), (1 : Int), ([] : List Int)), ((1 : Int), (0 : Int), ([112] : List UInt8), ([([110, 97, 109, 101], [98])] : List AttrD), ([] : List UInt8), (1 : Int), ([] : List Int))]), (2, .own intTy [1, 4]), (3, .box [.str [60, 47, 112, 62]])] True (.agg [.int .i64 2, .str [112], .nils, .bool false, .str []]) [(0, .box [.own 1, .own 2, .nils, .int .i64 5, .int .i64 0, .int .i64 0, .int .i64 0, .int .i64 0, .bool false, .bool false, .str [100, 105, 118]]), (1, .own nodeTy [((0 : Int), (0 : Int), ([] : List UInt8), ([] : List AttrD), ([] : List UInt8), (-1 : Int), ([1] : List Int)), ((1 : Int), (0 : Int), ([104, 116, 109, 108] : List UInt8), ([] : List AttrD), ([] : List UInt8), (0 : Int), ([2, 3, 4] : List Int)), ((1 : Int), (0 : Int), ([105, 109, 103] : List UInt8), ([([110, 97, 109, 101], [97]), ([105, 100], [98])] : List AttrD), ([] : List UInt8), (1 : Int), ([] : List Int)), ((1 : Int), (0 : Int), ([112] : List UInt8), ([([105, 100], [97])] : List AttrD), ([] : List UInt8), (1 : Int), ([] : List Int)), ((1 : Int), (0 : Int), ([112] : List UInt8), ([([110, 97, 109, 101], [98])] : List AttrD), ([] : List UInt8), (1 : Int), ([] : List Int))]), (2, .own intTy [1, 4]), (3, .box [.str []])] := by
 refine FnM.intro (N := 43) [0, 1, 4, 5, 10] [(3, [0, 0, 0, 0, 1, 0, 0, 0, 1, 1, 3, 3, 3, 3]), (4, [0, 0, 0, 0, 7, 0, 0, 0, 0, 4, 4, 4, 4, 4, 4, 4, 4, 4, 4, 4]), (3000004, [649,714,779,844,909,974,1039,1104,1169,1234])] 4 Tryz.call154 Tryz.func154 rfl rfl (by kernel_rfl) (fun hpre => ?_)
 repeat' ((conv => whnf);first|(with_reducible first|rfl|exact absTF|exact absFT)|exact True.intro|(intro hq;first|(exfalso;revert hq;decide +kernel)|clear hq|skip)|refine And.intro ?_ ?_|refine Fin.mk ?_|refine W1 rfl ?_ ?_|refine W2 rfl ?_ ?_|refine W3 rfl ?_ ?_|refine W4 ?_ ?_|refine W5 rfl ?_ ?_|refine W6 ?_ ?_|refine AppN.mk ?_|refine X1 (W1 rfl ?_ ?_)|refine X1 (W2 rfl ?_ ?_)|refine X2 (W7 rfl ?_ ?_)|refine X3 (W7 rfl ?_ ?_)|refine X4 (W7 rfl ?_ ?_)|refine X5 (W7 rfl ?_ ?_)|refine X7 (by conv => lhs;cbv) rfl ?_|refine X8 (by conv => lhs;cbv) ?_|refine LoopStop.ug 500 ?_|refine ZStop.dir ?_|(refine Ob.mk ?_;decide +kernel))
 all_goals (first | rfl | decide +kernel)
end Go.Vc

namespace Go.Vc
open Go.Proofs
set_option maxRecDepth 100000
set_option maxHeartbeats 40000000
set_option pp.deepTerms true
set_option pp.maxSteps 2000000
instance (priority := 5000) ZW_9 : FnM BA 155 [.loc 0 0, .loc 3 0] [(0, .box [.own 1, .own 2, .nils, .int .i64 5, .int .i64 0, .int .i64 0, .int .i64 0, .int .i64 0, .bool false, .bool false, .str [100, 105, 118]]), (1, .own nodeTy [((0 : Int), (0 : Int), ([] : List UInt8), ([] : List AttrD), ([] : List UInt8), (-1 : Int), ([1] : List Int)), ((1 : Int), (0 : Int), ([104, 116, 109, 108] : List UInt8), ([] : List AttrD), ([] : List UInt8), (0 : Int), ([2, 3, 4] : List Int)), ((1 : Int), (0 : Int), ([105, 109, 103] : List UInt8), ([([110, 97, 109, 101], [97]), ([105, 100], [98])] : List AttrD), ([] : List UInt8), (1 : Int), ([] : List Int)), ((1 : Int), (0 : Int), ([112] : List UInt8), ([([105, 100], [97])] : List AttrD), ([] : List UInt8), (1 : Int), ([] : List Int)), ((1 : Int), (0 : Int), ([112] : List UInt8), ([([110, 97, 109, 101], [98])] : List AttrD), ([] : List UInt8), (1 : Int), ([] : List Int))]), (2, .own intTy [1, 4]), (3, .box [.int .i64 2, .str [112], .nils, .bool false, .str []])] True (.bool false) [(0, .box [.own 1, .own 2, .nils, .int .i64 5, .int .i64 0, .int .i64 0, .int .i64 0, .int .i64 0, .bool false, .bool false, .str [100, 105, 118]]), (1, .own nodeTy [((0 : Int), (0 : Int), ([] : List UInt8), ([] : List AttrD), ([] : List UInt8), (-1 : Int), ([1] : List Int)), ((1 : Int), (0 : Int), ([104, 116, 109, 108] : List UInt8), ([] : List AttrD), ([] : List UInt8), (0 : Int), ([2, 3, 4] : List Int)), ((1 : Int), (0 : Int), ([105, 109, 103] : List UInt8), ([([110, 97, 109, 101], [97]), ([105, 100], [98])] : List AttrD), ([] : List UInt8), (1 : Int), ([] : List Int)), ((1 : Int), (0 : Int), ([112] : List UInt8), ([([105, 100], [97])] : List AttrD), ([] : List UInt8), (1 : Int), ([] : List Int)), ((1 : Int), (0 : Int), ([112] : List UInt8), ([([110, 97, 109, 101], [98])] : List AttrD), ([] : List UInt8), (1 : Int), ([] : List Int))]), (2, .own intTy [1]), (3, .box [.int .i64 2, .str [112], .nils, .bool false, .str []])] := by
 refine FnM.intro (N := 57) [0, 1, 4, 15, 20, 35, 50] [] 4 Tryz.call155 Tryz.func155 rfl rfl (by kernel_rfl) (fun hpre => ?_)
 repeat' ((conv => whnf);first|(with_reducible first|rfl|exact absTF|exact absFT)|exact True.intro|(intro hq;first|(exfalso;revert hq;decide +kernel)|clear hq|skip)|refine And.intro ?_ ?_|refine Fin.mk ?_|refine W1 rfl ?_ ?_|refine W2 rfl ?_ ?_|refine W3 rfl ?_ ?_|refine W4 ?_ ?_|refine W5 rfl ?_ ?_|refine W6 ?_ ?_|refine AppN.mk ?_|refine X1 (W1 rfl ?_ ?_)|refine X1 (W2 rfl ?_ ?_)|refine X2 (W7 rfl ?_ ?_)|refine X3 (W7 rfl ?_ ?_)|refine X4 (W7 rfl ?_ ?_)|refine X5 (W7 rfl ?_ ?_)|refine X7 (by conv => lhs;cbv) rfl ?_|refine X8 (by conv => lhs;cbv) ?_|refine LoopStop.ug 500 ?_|refine ZStop.dir ?_|(refine Ob.mk ?_;decide +kernel))
 all_goals (first | rfl | decide +kernel)
end Go.Vc

namespace Go.Vc
open Go.Proofs
set_option maxRecDepth 100000
set_option maxHeartbeats 40000000
set_option pp.deepTerms true
set_option pp.maxSteps 2000000
instance (priority := 5000) ZW_10 : FnM BA 154 [.loc 0 0, .loc 3 0] [(0, .box [.own 1, .own 2, .nils, .int .i64 5, .int .i64 0, .int .i64 0, .int .i64 0, .int .i64 0, .bool false, .bool false, .str [100, 105, 118]]), (1, .own nodeTy [((0 : Int), (0 : Int), ([] : List UInt8), ([] : List AttrD), ([] : List UInt8), (-1 : Int), ([1] : List Int)), ((1 : Int), (0 : Int), ([104, 116, 109, 108] : List UInt8), ([] : List AttrD), ([] : List UInt8), (0 : Int), ([2, 3, 4] : List Int)), ((1 : Int), (0 : Int), ([105, 109, 103] : List UInt8), ([([110, 97, 109, 101], [97]), ([105, 100], [98])] : List AttrD), ([] : List UInt8), (1 : Int), ([] : List Int)), ((1 : Int), (0 : Int), ([112] : List UInt8), ([([105, 100], [97])] : List AttrD), ([] : List UInt8), (1 : Int), ([] : List Int)), ((1 : Int), (0 : Int), ([112] : List UInt8), ([([110, 97, 109, 101], [98])] : List AttrD), ([] : List UInt8), (1 : Int), ([] : List Int))]), (2, .own intTy [1]), (3, .box [.str []])] True (.agg [.int .i64 0, .str [], .nils, .bool false, .str []]) [(0, .box [.own 1, .own 2, .nils, .int .i64 5, .int .i64 0, .int .i64 0, .int .i64 0, .int .i64 0, .bool false, .bool false, .str [100, 105, 118]]), (1, .own nodeTy [((0 : Int), (0 : Int), ([] : List UInt8), ([] : List AttrD), ([] : List UInt8), (-1 : Int), ([1] : List Int)), ((1 : Int), (0 : Int), ([104, 116, 109, 108] : List UInt8), ([] : List AttrD), ([] : List UInt8), (0 : Int), ([2, 3, 4] : List Int)), ((1 : Int), (0 : Int), ([105, 109, 103] : List UInt8), ([([110, 97, 109, 101], [97]), ([105, 100], [98])] : List AttrD), ([] : List UInt8), (1 : Int), ([] : List Int)), ((1 : Int), (0 : Int), ([112] : List UInt8), ([([105, 100], [97])] : List AttrD), ([] : List UInt8), (1 : Int), ([] : List Int)), ((1 : Int), (0 : Int), ([112] : List UInt8), ([([110, 97, 109, 101], [98])] : List AttrD), ([] : List UInt8), (1 : Int), ([] : List Int))]), (2, .own intTy [1]), (3, .box [.str []])] := by
 refine FnM.intro (N := 43) [0, 1, 4, 5, 10] [(3, [0, 0, 0, 0, 1, 0, 0, 0, 1, 1, 3, 3, 3, 3]), (4, [0, 0, 0, 0, 7, 0, 0, 0, 0, 4, 4, 4, 4, 4, 4, 4, 4, 4, 4, 4]), (3000004, [649,714,779,844,909,974,1039,1104,1169,1234])] 4 Tryz.call154 Tryz.func154 rfl rfl (by kernel_rfl) (fun hpre => ?_)
 repeat' ((conv => whnf);first|(with_reducible first|rfl|exact absTF|exact absFT)|exact True.intro|(intro hq;first|(exfalso;revert hq;decide +kernel)|clear hq|skip)|refine And.intro ?_ ?_|refine Fin.mk ?_|refine W1 rfl ?_ ?_|refine W2 rfl ?_ ?_|refine W3 rfl ?_ ?_|refine W4 ?_ ?_|refine W5 rfl ?_ ?_|refine W6 ?_ ?_|refine AppN.mk ?_|refine X1 (W1 rfl ?_ ?_)|refine X1 (W2 rfl ?_ ?_)|refine X2 (W7 rfl ?_ ?_)|refine X3 (W7 rfl ?_ ?_)|refine X4 (W7 rfl ?_ ?_)|refine X5 (W7 rfl ?_ ?_)|refine X7 (by conv => lhs;cbv) rfl ?_|refine X8 (by conv => lhs;cbv) ?_|refine LoopStop.ug 500 ?_|refine ZStop.dir ?_|(refine Ob.mk ?_;decide +kernel))
 all_goals (first | rfl | decide +kernel)
end Go.Vc

namespace Go.Vc
open Go.Proofs
set_option maxRecDepth 100000
set_option maxHeartbeats 40000000
set_option pp.deepTerms true
set_option pp.maxSteps 2000000
instance (priority := 5000) ZW_11 : FnM BA 155 [.loc 0 0, .loc 3 0] [(0, .box [.own 1, .own 2, .nils, .int .i64 5, .int .i64 0, .int .i64 0, .int .i64 0, .int .i64 0, .bool false, .bool false, .str [100, 105, 118]]), (1, .own nodeTy [((0 : Int), (0 : Int), ([] : List UInt8), ([] : List AttrD), ([] : List UInt8), (-1 : Int), ([1] : List Int)), ((1 : Int), (0 : Int), ([104, 116, 109, 108] : List UInt8), ([] : List AttrD), ([] : List UInt8), (0 : Int), ([2, 3, 4] : List Int)), ((1 : Int), (0 : Int), ([105, 109, 103] : List UInt8), ([([110, 97, 109, 101], [97]), ([105, 100], [98])] : List AttrD), ([] : List UInt8), (1 : Int), ([] : List Int)), ((1 : Int), (0 : Int), ([112] : List UInt8), ([([105, 100], [97])] : List AttrD), ([] : List UInt8), (1 : Int), ([] : List Int)), ((1 : Int), (0 : Int), ([112] : List UInt8), ([([110, 97, 109, 101], [98])] : List AttrD), ([] : List UInt8), (1 : Int), ([] : List Int))]), (2, .own intTy [1]), (3, .box [.int .i64 0, .str [], .nils, .bool false, .str []])] True (.bool false) [(0, .box [.own 1, .own 2, .nils, .int .i64 5, .int .i64 0, .int .i64 0, .int .i64 0, .int .i64 0, .bool false, .bool false, .str [100, 105, 118]]), (1, .own nodeTy [((0 : Int), (0 : Int), ([] : List UInt8), ([] : List AttrD), ([] : List UInt8), (-1 : Int), ([1] : List Int)), ((1 : Int), (0 : Int), ([104, 116, 109, 108] : List UInt8), ([] : List AttrD), ([] : List UInt8), (0 : Int), ([2, 3, 4] : List Int)), ((1 : Int), (0 : Int), ([105, 109, 103] : List UInt8), ([([110, 97, 109, 101], [97]), ([105, 100], [98])] : List AttrD), ([] : List UInt8), (1 : Int), ([] : List Int)), ((1 : Int), (0 : Int), ([112] : List UInt8), ([([105, 100], [97])] : List AttrD), ([] : List UInt8), (1 : Int), ([] : List Int)), ((1 : Int), (0 : Int), ([112] : List UInt8), ([([110, 97, 109, 101], [98])] : List AttrD), ([] : List UInt8), (1 : Int), ([] : List Int))]), (2, .own intTy [1]), (3, .box [.int .i64 0, .str [], .nils, .bool false, .str []])] := by
 refine FnM.intro (N := 57) [0, 1, 4, 15, 20, 35, 50] [] 4 Tryz.call155 Tryz.func155 rfl rfl (by kernel_rfl) (fun hpre => ?_)
 repeat' ((conv => whnf);first|(with_reducible first|rfl|exact absTF|exact absFT)|exact True.intro|(intro hq;first|(exfalso;revert hq;decide +kernel)|clear hq|skip)|refine And.intro ?_ ?_|refine Fin.mk ?_|refine W1 rfl ?_ ?_|refine W2 rfl ?_ ?_|refine W3 rfl ?_ ?_|refine W4 ?_ ?_|refine W5 rfl ?_ ?_|refine W6 ?_ ?_|refine AppN.mk ?_|refine X1 (W1 rfl ?_ ?_)|refine X1 (W2 rfl ?_ ?_)|refine X2 (W7 rfl ?_ ?_)|refine X3 (W7 rfl ?_ ?_)|refine X4 (W7 rfl ?_ ?_)|refine X5 (W7 rfl ?_ ?_)|refine X7 (by conv => lhs;cbv) rfl ?_|refine X8 (by conv => lhs;cbv) ?_|refine LoopStop.ug 500 ?_|refine ZStop.dir ?_|(refine Ob.mk ?_;decide +kernel))
 all_goals (first | rfl | decide +kernel)
end Go.Vc

namespace Go.Vc
open Go.Proofs
set_option maxRecDepth 10000
instance decN1 : DecidableEq (List UInt8) := inferInstance
instance decN2 : DecidableEq (List UInt8 × List UInt8) := instDecidableEqProd
instance decN3 : DecidableEq (Int × List Int) := instDecidableEqProd
instance decN4 : DecidableEq (List (List UInt8 × List UInt8)) := instDecidableEqList
instance decN5 : DecidableEq (List UInt8 × Int × List Int) := instDecidableEqProd
instance decNode : DecidableEq NodeD := (instDecidableEqProd : DecidableEq (Int × Int × List UInt8 × List (List UInt8 × List UInt8) × List UInt8 × Int × List Int))
def dfsF (K : Nat → List Int) : Nat → List Bool → Nat → Nat → Nat → Option (List Ev × List Bool × Nat)
 | 0, _, _, _, _ => none
 | f + 1, s, i, j, c =>
  if j < (K i).length then
   if okK s ((K i).getD j 0) = true then
    match dfsF K f (s.set ((K i).getD j 0).toNat true) ((K i).getD j 0).toNat 0 (c + 1) with
    | none => none
    | some r1 =>
     match dfsF K f r1.2.1 i (j + 1) r1.2.2 with
     | none => none
     | some r2 => some ((((K i).getD j 0).toNat, (i : Int), c, false) :: (r1.1 ++ r2.1), r2.2.1, r2.2.2)
   else dfsF K f s i (j + 1) c
  else some ([(i, 0, c, true)], s, c + 1)
theorem dfsF_eq {K : Nat → List Int} : ∀ (f : Nat) (s : List Bool) (i j c : Nat) (r : List Ev × List Bool × Nat), dfsF K f s i j c = some r → dfs K s i j c = r := by
 intro f
 induction f with
 | zero => intro s i j c r h; cases h
 | succ f ih =>
  intro s i j c r h
  rw [dfsF] at h
  split at h
  ·rename_i hj
   split at h
   ·rename_i hk
    split at h
    ·cases h
    ·rename_i r1 h1
     split at h
     ·cases h
     ·rename_i r2 h2
      cases h
      rw [dfs_ok hj hk, ih _ _ _ _ _ h1, ih _ _ _ _ _ h2]
   ·rename_i hk
    rw [dfs_bad hj (by simpa using hk)]
    exact ih _ _ _ _ _ h
  ·rename_i hj
   cases h
   exact dfs_end hj
def finF (t : List NodeD) (f : Nat) : Option St :=
 if t.length = 0 then none else
 match dfsF (kidsOf t) f ((List.replicate t.length false).set 0 true) 0 0 1 with
 | some r => some ((st0 t.length).run ((0, -1, 0, false) :: r.1))
 | none => none
theorem finF_eq {t : List NodeD} {f : Nat} {y : St} (h : finF t f = some y) : fin t = y := by
 unfold finF at h
 split at h
 ·cases h
 ·rename_i h0
  split at h
  ·rename_i r hr
   cases h
   unfold fin finT evsT
   rw [if_neg h0, runS, runS, List.append_nil, dfsF_eq _ _ _ _ _ _ hr]
  ·cases h
def putF (t : List NodeD) (k f : Nat) : Option (List NodeD) :=
 match dfsF (kidsOf t) f ((List.replicate t.length false).set k true) k 0 0 with
 | some r => some (({ out := [mkN (t.getD k nodeTy.dflt) (-1)], P := [0] } : PSt).run t r.1).out
 | none => none
theorem putF_eq {t : List NodeD} {k f : Nat} {x : List NodeD} (h : putF t k f = some x) : putO t (kidsOf t) [] (List.replicate t.length false) k (-1) = x := by
 unfold putF at h
 split at h
 ·rename_i r hr
  cases h
  unfold putO pS
  rw [dfsF_eq _ _ _ _ _ _ hr]
  rfl
 ·cases h
def subF (t : List NodeD) (i : Int) (f : Nat) : Option (List NodeD) :=
 match finF t f, putF t 0 f with
 | some y, some x =>
  if smallT t && decide (t.length ≤ 45) && smallT x && decide (y.L.length ≤ x.length) && decide (x.length ≤ 1000) && decide (0 < t.length) then
   match findI (natI y.L) i with
   | none => some [rootN]
   | some k => match putF x k f with | some z => some (bareT z) | none => none
  else none
 | _, _ => none
theorem subF_ok {t : List NodeD} {i : Int} {f : Nat} {T : List NodeD} (h : subF t i f = some T) : subPre t ∧ subT t i = T := by
 unfold subF at h
 split at h
 ·rename_i y x hy hx
  split at h
  ·rename_i hc
   simp only [Bool.and_eq_true, decide_eq_true_eq] at hc
   have e1 := finF_eq hy
   have e0 : ¬ t = [] := fun e => by rw [e] at hc; exact absurd hc.2 (by decide)
   have e2 : tidyT t = x := by unfold tidyT; rw [if_neg e0]; exact putF_eq hx
   refine ⟨⟨hc.1.1.1.1.1, hc.1.1.1.1.2, by rw [e2]; exact hc.1.1.1.2, by rw [e1, e2]; exact hc.1.1.2, by rw [e2]; exact hc.1.2⟩, ?_⟩
   unfold subT
   rw [e1, e2]
   split at h
   ·rename_i hk; rw [hk]; exact Option.some.inj h
   ·rename_i k hk
    rw [hk]
    split at h
    ·rename_i z hz
     show subAt x k = T
     unfold subAt
     rw [putF_eq hz]
     exact Option.some.inj h
    ·cases h
  ·cases h
 ·cases h
end Go.Vc

namespace Go.Vc
open Go.Proofs
set_option maxRecDepth 100000
set_option maxHeartbeats 40000000
abbrev ZW_N : List NodeD := [((0 : Int), (0 : Int), ([] : List UInt8), ([] : List AttrD), ([] : List UInt8), (-1 : Int), ([1] : List Int)), ((1 : Int), (0 : Int), ([104, 116, 109, 108] : List UInt8), ([] : List AttrD), ([] : List UInt8), (0 : Int), ([2, 3, 4] : List Int)), ((1 : Int), (0 : Int), ([105, 109, 103] : List UInt8), ([([110, 97, 109, 101], [97]), ([105, 100], [98])] : List AttrD), ([] : List UInt8), (1 : Int), ([] : List Int)), ((1 : Int), (0 : Int), ([112] : List UInt8), ([([105, 100], [97])] : List AttrD), ([] : List UInt8), (1 : Int), ([] : List Int)), ((1 : Int), (0 : Int), ([112] : List UInt8), ([([110, 97, 109, 101], [98])] : List AttrD), ([] : List UInt8), (1 : Int), ([] : List Int))]
abbrev ZW_T : List NodeD := [((0 : Int), (0 : Int), ([] : List UInt8), ([] : List AttrD), ([] : List UInt8), (-1 : Int), ([1, 2, 3] : List Int)), ((1 : Int), (0 : Int), ([105, 109, 103] : List UInt8), ([([110, 97, 109, 101], [97]), ([105, 100], [98])] : List AttrD), ([] : List UInt8), (0 : Int), ([] : List Int)), ((1 : Int), (0 : Int), ([112] : List UInt8), ([([105, 100], [97])] : List AttrD), ([] : List UInt8), (0 : Int), ([] : List Int)), ((1 : Int), (0 : Int), ([112] : List UInt8), ([([110, 97, 109, 101], [98])] : List AttrD), ([] : List UInt8), (0 : Int), ([] : List Int))]
instance (priority := 5000) ZW_new : FnM BA 114 [.str [100, 105, 118]] [] True (.loc 0 0) [(0, .box [.own 1, .own 2, .nils, .int .i64 5, .int .i64 0, .int .i64 0, .int .i64 0, .int .i64 0, .bool false, .bool false, .str [100, 105, 118]]), (1, .own nodeTy [((0 : Int), (0 : Int), ([] : List UInt8), ([] : List AttrD), ([] : List UInt8), (-1 : Int), ([1] : List Int)), ((1 : Int), (0 : Int), ([104, 116, 109, 108] : List UInt8), ([] : List AttrD), ([] : List UInt8), (0 : Int), ([] : List Int))]), (2, .own intTy [1])] := by
 refine FnM.intro (N := 34) [0, 2, 3, 4, 10] [] 0 Tryz.call114 Tryz.func114 rfl rfl (by kernel_rfl) (fun hpre => ?_)
 repeat' ((conv => whnf);first|(with_reducible first|rfl|exact absTF|exact absFT)|exact True.intro|(intro hq;first|(exfalso;revert hq;decide +kernel)|clear hq|skip)|refine And.intro ?_ ?_|refine Fin.mk ?_|refine W1 rfl ?_ ?_|refine W2 rfl ?_ ?_|refine W3 rfl ?_ ?_|refine W4 ?_ ?_|refine W5 rfl ?_ ?_|refine W6 ?_ ?_|refine AppN.mk ?_|refine X1 (W1 rfl ?_ ?_)|refine X1 (W2 rfl ?_ ?_)|refine X2 (W7 rfl ?_ ?_)|refine X3 (W7 rfl ?_ ?_)|refine X4 (W7 rfl ?_ ?_)|refine X5 (W7 rfl ?_ ?_)|refine X7 (by conv => lhs;cbv) rfl ?_|refine X8 (by conv => lhs;cbv) ?_|refine LoopStop.ug 500 ?_|refine ZStop.dir ?_|(refine Ob.mk ?_;decide +kernel))
 all_goals (first | rfl | decide +kernel)
instance (priority := 5000) ZW_run : FnM BA 115 [.loc 0 0, .str (60 :: 105 :: 109 :: 103 :: 32 :: 110 :: 97 :: 109 :: 101 :: 61 :: 97 :: 32 :: 105 :: 100 :: 61 :: 98 :: 62 :: 60 :: 112 :: 32 :: 105 :: 100 :: 61 :: 97 :: 62 :: 60 :: 47 :: 112 :: 62 :: 60 :: 112 :: 32 :: 110 :: 97 :: 109 :: 101 :: 61 :: 98 :: 62 :: 60 :: 47 :: 112 :: 62 :: [])] [(0, .box [.own 1, .own 2, .nils, .int .i64 5, .int .i64 0, .int .i64 0, .int .i64 0, .int .i64 0, .bool false, .bool false, .str [100, 105, 118]]), (1, .own nodeTy [((0 : Int), (0 : Int), ([] : List UInt8), ([] : List AttrD), ([] : List UInt8), (-1 : Int), ([1] : List Int)), ((1 : Int), (0 : Int), ([104, 116, 109, 108] : List UInt8), ([] : List AttrD), ([] : List UInt8), (0 : Int), ([] : List Int))]), (2, .own intTy [1])] True (.tup []) [(0, .box [.own 1, .own 3, .nils, .int .i64 5, .int .i64 0, .int .i64 0, .int .i64 0, .int .i64 0, .bool false, .bool false, .str [100, 105, 118]]), (1, .own nodeTy ZW_N), (3, .own intTy [1])] := by
 refine FnM.intro (N := 46) [0, 1, 4, 5, 6, 7, 35, 42, 44, 45] [] 3 Tryz.call115 Tryz.func115 rfl rfl (by kernel_rfl) (fun hpre => ?_)
 repeat' ((conv => whnf);first|(with_reducible first|rfl|exact absTF|exact absFT)|exact True.intro|(intro hq;first|(exfalso;revert hq;decide +kernel)|clear hq|skip)|refine And.intro ?_ ?_|refine Fin.mk ?_|refine W1 rfl ?_ ?_|refine W2 rfl ?_ ?_|refine W3 rfl ?_ ?_|refine W4 ?_ ?_|refine W5 rfl ?_ ?_|refine W6 ?_ ?_|refine AppN.mk ?_|refine X1 (W1 rfl ?_ ?_)|refine X1 (W2 rfl ?_ ?_)|refine X2 (W7 rfl ?_ ?_)|refine X3 (W7 rfl ?_ ?_)|refine X4 (W7 rfl ?_ ?_)|refine X5 (W7 rfl ?_ ?_)|refine X7 (by conv => lhs;cbv) rfl ?_|refine X8 (by conv => lhs;cbv) ?_|refine LoopStop.ug 500 ?_|refine ZStop.dir ?_|(refine Ob.mk ?_;decide +kernel))
 all_goals (first | rfl | decide +kernel)
theorem ZW_sub : subPre ZW_N ∧ subT ZW_N 1 = ZW_T := subF_ok (f := 100) (by decide +kernel)
instance ZW_fragA : FnM BA 59 [.str (60 :: 105 :: 109 :: 103 :: 32 :: 110 :: 97 :: 109 :: 101 :: 61 :: 97 :: 32 :: 105 :: 100 :: 61 :: 98 :: 62 :: 60 :: 112 :: 32 :: 105 :: 100 :: 61 :: 97 :: 62 :: 60 :: 47 :: 112 :: 62 :: 60 :: 112 :: 32 :: 110 :: 97 :: 109 :: 101 :: 61 :: 98 :: 62 :: 60 :: 47 :: 112 :: 62 :: []), .str [100, 105, 118]] [] True (.agg [.rd nodeTy ZW_T]) [] := by
 refine FnM.intro (N := 28) [0, 1, 4, 5, 7] [(5, [0, 0, 0, 1, 0, 0, 0, 0, 1, 1, 1, 1, 1, 1, 3, 3]), (5000005, [5])] 0 Tryz.call59 Tryz.func59 rfl rfl (by kernel_rfl) (fun hpre => ?_)
 repeat' ((conv => whnf);first|(with_reducible first|rfl|exact absTF|exact absFT)|exact True.intro|(intro hq;first|(exfalso;revert hq;decide +kernel)|clear hq|skip)|refine And.intro ?_ ?_|refine Fin.mk ?_|refine W1 rfl ?_ ?_|refine W2 rfl ?_ ?_|refine W3 rfl ?_ ?_|refine W4 ?_ ?_|refine W5 rfl ?_ ?_|refine W6 ?_ ?_|refine AppN.mk ?_|refine X1 (W1 rfl ?_ ?_)|refine X1 (W2 rfl ?_ ?_)|refine X2 (W7 rfl ?_ ?_)|refine X3 (W7 rfl ?_ ?_)|refine X4 (W7 rfl ?_ ?_)|refine X5 (W7 rfl ?_ ?_)|refine X7 (by conv => lhs;cbv) rfl ?_|refine X8 (by conv => lhs;cbv) ?_|refine LoopStop.ug 500 ?_|refine ZStop.dir ?_|(refine Ob.mk ?_;decide +kernel))
 all_goals (first | exact Ob.mk ZW_sub.1 | exact ZW_sub.1 | exact congrArg (fun l => SV.rd nodeTy l) ZW_sub.2 | rfl | decide +kernel | trace_state)
instance ZW_frag : Fn BB 59 [.str (60 :: 105 :: 109 :: 103 :: 32 :: 110 :: 97 :: 109 :: 101 :: 61 :: 97 :: 32 :: 105 :: 100 :: 61 :: 98 :: 62 :: 60 :: 112 :: 32 :: 105 :: 100 :: 61 :: 97 :: 62 :: 60 :: 47 :: 112 :: 62 :: 60 :: 112 :: 32 :: 110 :: 97 :: 109 :: 101 :: 61 :: 98 :: 62 :: 60 :: 47 :: 112 :: 62 :: []), .str [100, 105, 118]] True (.agg [.rd nodeTy ZW_T]) :=
 ⟨ZW_fragA.call, ZW_fragA.ok⟩
end Go.Vc

namespace Go.Vc
open Go.Proofs
open Go.Vc.W
set_option maxRecDepth 10000
set_option maxHeartbeats 4000000
theorem okNode {t : List NodeD} {m : Int} (h : treeOk t m = true) (i : Int) (hi : 0 ≤ i ∧ i < t.length) : nodeOk (nd t i) = true := by
 unfold treeOk at h
 rw [Bool.and_eq_true, List.all_eq_true] at h
 refine h.2 _ ?_
 have e : nd t i = t[i.toNat]'(by omega) := by unfold nd; rw [List.getD_eq_getElem?_getD, List.getElem?_eq_getElem (by omega)]; rfl
 rw [e]; exact List.getElem_mem _
theorem okLen {t : List NodeD} {m : Int} (h : treeOk t m = true) : (t.length : Int) ≤ m := by
 unfold treeOk at h; rw [Bool.and_eq_true, decide_eq_true_eq] at h; exact h.1
theorem okNode_at {n : NodeD} (h : nodeOk n = true) : n.2.2.1.length ≤ 40 ∧ n.2.2.2.1.length ≤ 14 ∧ n.2.2.2.2.1.length ≤ 300 ∧ n.kids.length ≤ 60 := by
 unfold nodeOk attrsOk at h
 simp only [Bool.and_eq_true, decide_eq_true_eq] at h
 omega
abbrev idT : List UInt8 := [105, 100]
abbrev nameT : List UInt8 := [110, 97, 109, 101]
abbrev embT : List UInt8 := [101, 109, 98, 101, 100, 32, 102, 111, 114, 109, 32, 105, 109, 103, 32, 111, 98, 106, 101, 99, 116]
def hasA (l : List AttrD) (nm v : List UInt8) : Bool := l.any (hitN nm) && (getV l nm == v)
def tellB (n : NodeD) (nm : List UInt8) : Bool := n.1 == 1 && n.2.1 == 0 && (hasA n.2.2.2.1 idT nm || (hasA n.2.2.2.1 nameT nm && (spl embT).contains n.2.2.1))
def listI (t : List NodeD) : List Int := natI (fin t).L
def namedT (t : List NodeD) (nm : List UInt8) : List Int := if nm = [] then [] else (listI t).filter fun i => tellB (nd t i) nm
theorem getV_any {l : List AttrD} {nm v : List UInt8} (hv : ¬ v = []) : hasA l nm v = (getV l nm == v) := by
 unfold hasA
 cases h : l.any (hitN nm) with
 | true => rfl
 | false =>
  have : getV l nm = [] := by
   rw [List.any_eq_false] at h
   exact (getV_none (List.all_eq_true.2 fun x hx => by simpa using h x hx)).1
  rw [this, Bool.false_and]
  symm
  exact beq_eq_false_iff_ne.2 (fun e => hv e.symm)
theorem listI_len (t : List NodeD) : (listI t).length ≤ t.length := by
 have d := fin_done (kidsOf t) t.length
 have h := nodup_lt d.nod d.lt
 unfold listI natI
 rw [List.length_map]; exact h
theorem listI_at (t : List NodeD) (k : Nat) (h : k < (listI t).length) (d0 : Int) : 0 ≤ (listI t).getD k d0 ∧ (listI t).getD k d0 < t.length := by
 have d := fin_done (kidsOf t) t.length
 unfold listI natI at *
 rw [List.length_map] at h
 rw [List.getD_eq_getElem?_getD, List.getElem?_map, List.getElem?_eq_getElem h]
 have := d.lt _ (List.getElem_mem h)
 show 0 ≤ ((fin t).L[k] : Int) ∧ ((fin t).L[k] : Int) < t.length
 have h2 : (fin t).L[k] < t.length := this
 omega
theorem take_filt {p : Int → Bool} (L : List Int) (j : Nat) (h : j < L.length) (d : Int) : (L.take (j + 1)).filter p = (L.take j).filter p ++ (if p (L.getD j d) = true then [L.getD j d] else []) := by
 rw [List.take_succ_eq_append_getElem h, List.filter_append]
 have : L.getD j d = L[j] := by simp [List.getD, h]
 rw [this]
 congr 1
 simp [List.filter_cons]
instance wHas (k s : Int) (nn : List UInt8) (at_ : List AttrD) (d : List UInt8) (up : Int) (kids : List Int) (nm v : List UInt8) :
  Fn BB 83 [.agg [.int .i64 k, .int .i64 s, .str nn, .rd attrTy at_, .str d, .int .i64 up, .rd intTy kids], .str nm, .str v] (at_.length ≤ 100000) (.bool (hasA at_ nm v)) := by
 refine Fn.intro (N := 22) [0, 1, 2, 3, 6, 7, 8] [] Tryz.call83 Tryz.func83 rfl rfl (by kernel_rfl) (fun hpre => ?_)
 all_goals exact vcA
instance wVal (k s : Int) (nn : List UInt8) (at_ : List AttrD) (d : List UInt8) (up : Int) (kids : List Int) (nm : List UInt8) :
  Fn BB 85 [.agg [.int .i64 k, .int .i64 s, .str nn, .rd attrTy at_, .str d, .int .i64 up, .rd intTy kids], .str nm] (at_.length ≤ 100000) (.str (getV at_ nm)) := by
 refine Fn.intro (N := 15) [0, 1, 2, 4, 5] [] Tryz.call85 Tryz.func85 rfl rfl (by kernel_rfl) (fun hpre => ?_)
 all_goals exact vcA
theorem tell_f {a b : Int} {p : Bool} (h : (a != 1 || b != 0) = true) : (a == 1 && b == 0 && p) = false := by
 cases h1 : a == 1 <;> cases h2 : b == 0 <;> simp_all [bne]
theorem tell_t {a b : Int} {p : Bool} (h : (a != 1 || b != 0) = false) : (a == 1 && b == 0 && p) = p := by
 cases h1 : a == 1 <;> cases h2 : b == 0 <;> simp_all [bne]
theorem filt_t {p : Int → Bool} {L : List Int} {j : Nat} (h : j < L.length) (d : Int) (hp : p (L.getD j d) = true) : (L.take (j + 1)).filter p = (L.take j).filter p ++ [L.getD j d] := by rw [take_filt L j h d, if_pos hp]
theorem filt_f {p : Int → Bool} {L : List Int} {j : Nat} (h : j < L.length) (d : Int) (hp : p (L.getD j d) = false) : (L.take (j + 1)).filter p = (L.take j).filter p := by rw [take_filt L j h d, if_neg (by rw [hp]; decide), List.append_nil]
instance wNamed (t : List NodeD) (nm : List UInt8) : Fn BB 25 [.agg [.rd nodeTy t], .str nm] (treeOk t 45 = true ∧ nm.length ≤ 1000) (.rd intTy (namedT t nm)) := by
 refine Fn.intro (N := 51) [0, 1, 2, 4, 5, 7, 8, 10, 13, 14, 15, 16, 24, 33] [] Tryz.call25 Tryz.func25 rfl rfl (by kernel_rfl) (fun hpre => ?_)
 obtain ⟨ht, hnm⟩ := hpre
 have hl := okLen ht
 repeat' ((conv => whnf);first|(with_reducible first|rfl|exact absTF|exact absFT)|exact True.intro|intro _|refine And.intro ?_ ?_|refine Fin.mk ?_|refine W1 rfl ?_ ?_|refine W2 rfl ?_ ?_|refine W3 rfl ?_ ?_|refine W4 ?_ ?_|refine W5 rfl ?_ ?_|refine W6 ?_ ?_|refine AppN.mk ?_|refine X1 (W1 rfl ?_ ?_)|refine X1 (W2 rfl ?_ ?_)|refine X2 (W7 rfl ?_ ?_)|refine X3 (W7 rfl ?_ ?_)|refine X4 (W7 rfl ?_ ?_)|refine X5 (W7 rfl ?_ ?_))
 all_goals (try (conv => whnf))
 all_goals (try first|exact obA|refine Ob.mk ?_)
 ·unfold namedT; rw [if_pos (beq_iff_eq.1 ‹(nm == []) = true›)]
 have hne : ¬ nm = [] := fun e => by have h := ‹(nm == []) = false›; rw [e] at h; cases h
 refine LoopStop.mk (α := Nat) (fun k => [(15, .int .i64 k), (5, .own 20)]) (fun k => [(20, .own intTy (((listI t).take k).filter fun i => tellB (nd t i) nm))]) 30 (fun k => k ≤ (listI t).length) (fun k => (listI t).length - k) 0 (Nat.zero_le _) ?_ (fun k hk => ?_)
 ·all_goals exact vcA
 ·have hll : (listI t).length ≤ 45 := by have := listI_len t; omega
  have hfl : ((((listI t).take k).filter fun i => tellB (nd t i) nm)).length ≤ 45 := Nat.le_trans (List.length_filter_le _ _) (by rw [List.length_take]; omega)
  by_cases hkl : k < (listI t).length
  ·have hat : 0 ≤ (natI (fin t).L).getD k intTy.dflt ∧ (natI (fin t).L).getD k intTy.dflt < t.length := listI_at t k hkl _
   have hn := okNode_at (okNode ht _ hat)
   have ht1 : ∀ X : NodeD, (X.1 != 1 || X.2.1 != 0) = true → tellB X nm = false := fun X h => tell_f h
   have ht2 : ∀ X : NodeD, (X.1 != 1 || X.2.1 != 0) = false → tellB X nm = (hasA X.2.2.2.1 idT nm || (hasA X.2.2.2.1 nameT nm && (spl embT).contains X.2.2.1)) := fun X h => tell_t h
   have fT := filt_t (p := fun i => tellB (nd t i) nm) (L := natI (fin t).L) hkl intTy.dflt
   have fF := filt_f (p := fun i => tellB (nd t i) nm) (L := natI (fin t).L) hkl intTy.dflt
   repeat' ((conv => whnf);first|(with_reducible first|rfl|exact absTF|exact absFT)|exact True.intro|intro _|refine And.intro ?_ ?_|refine Fin.mk ?_|refine W1 rfl ?_ ?_|refine W2 rfl ?_ ?_|refine W3 rfl ?_ ?_|refine W4 ?_ ?_|refine W5 rfl ?_ ?_|refine W6 ?_ ?_|refine AppN.mk ?_|refine X1 (W1 rfl ?_ ?_)|refine X1 (W2 rfl ?_ ?_)|refine X2 (W7 rfl ?_ ?_)|refine X3 (W7 rfl ?_ ?_)|refine X4 (W7 rfl ?_ ?_)|refine X5 (W7 rfl ?_ ?_))
   all_goals (try (conv => whnf))
   all_goals (try first|exact obA|refine Ob.mk ?_)
   all_goals (try simp only [Int.toNat_natCast] at *)
   all_goals (try (exact hat))
   all_goals (try (exfalso; have h := of_decide_eq_false ‹decide ((k : Int) < ((natI (fin t).L).length : Int)) = false›; exact h (Int.ofNat_lt.mpr hkl)))
   all_goals (try (first | exact Nat.le_trans hn.2.1 (by decide) | (refine ⟨by decide, Nat.le_trans hn.1 (by decide)⟩) | (constructor <;> (simp only [cast_eq]; omega))))
   all_goals (try simp only [bytes3, bytesB3, List.length_singleton] at *)
   all_goals (try exact ⟨Nat.le_trans (Nat.mul_le_mul_right 8 (Nat.succ_le_succ hfl)) (by decide), Nat.le_trans (Nat.succ_le_succ hfl) (by decide)⟩)
   all_goals (try (have hq := fF (ht1 (nd t ((natI (fin t).L).getD k intTy.dflt)) (by assumption))))
   all_goals (try (have hc := ht2 (nd t ((natI (fin t).L).getD k intTy.dflt)) (by assumption)))
   all_goals (try (have hq := fT (by rw [hc, show hasA (nd t ((natI (fin t).L).getD k intTy.dflt)).2.2.2.1 idT nm = true from by assumption]; rfl)))
   all_goals (try (have hq := fT (by rw [hc, show hasA (nd t ((natI (fin t).L).getD k intTy.dflt)).2.2.2.1 idT nm = false from by assumption, show (hasA (nd t ((natI (fin t).L).getD k intTy.dflt)).2.2.2.1 nameT nm && (spl embT).contains (nd t ((natI (fin t).L).getD k intTy.dflt)).2.2.1) = true from by assumption]; rfl)))
   all_goals (try (have hq := fF (by rw [hc, show hasA (nd t ((natI (fin t).L).getD k intTy.dflt)).2.2.2.1 idT nm = false from by assumption, show (hasA (nd t ((natI (fin t).L).getD k intTy.dflt)).2.2.2.1 nameT nm && (spl embT).contains (nd t ((natI (fin t).L).getD k intTy.dflt)).2.2.1) = false from by assumption]; rfl)))
   all_goals (first | refine Rnd.mk ⟨k + 1, by omega, by omega, ?_⟩ | trace_state)
   repeat' ((conv => whnf);first|(with_reducible first|rfl|exact absTF|exact absFT)|exact True.intro|intro _|refine And.intro ?_ ?_|refine Fin.mk ?_|refine W1 rfl ?_ ?_|refine W2 rfl ?_ ?_|refine W3 rfl ?_ ?_|refine W4 ?_ ?_|refine W5 rfl ?_ ?_|refine W6 ?_ ?_|refine AppN.mk ?_|refine X1 (W1 rfl ?_ ?_)|refine X1 (W2 rfl ?_ ?_)|refine X2 (W7 rfl ?_ ?_)|refine X3 (W7 rfl ?_ ?_)|refine X4 (W7 rfl ?_ ?_)|refine X5 (W7 rfl ?_ ?_))
   all_goals (try (conv => whnf))
   all_goals (try first|exact obA|refine Ob.mk ?_)
   all_goals (first | exact Bool.noConfusion ((by assumption : hasA (nd t ((natI (fin t).L).getD k intTy.dflt)).2.2.2.1 idT nm = true).symm.trans (by assumption : hasA (nd t ((natI (fin t).L).getD k intTy.dflt)).2.2.2.1 idT nm = false)) | rfl | exact congrArg (Chunk.own intTy) hq.symm | trace_state)
  ·have e : k = (natI (fin t).L).length := by have h : (listI t).length = (natI (fin t).L).length := rfl; omega
   have hx : ∀ {p : Prop}, decide ((k : Int) < ((natI (fin t).L).length : Int)) = true → p := fun h => by have h := of_decide_eq_true h; omega
   repeat' ((conv => whnf);first|(with_reducible first|rfl|exact absTF|exact absFT)|exact True.intro|intro _|refine And.intro ?_ ?_|refine Fin.mk ?_|refine W1 rfl ?_ ?_|refine W2 rfl ?_ ?_|refine W3 rfl ?_ ?_|refine W4 ?_ ?_|refine W5 rfl ?_ ?_|refine W6 ?_ ?_|refine AppN.mk ?_|refine X1 (W1 rfl ?_ ?_)|refine X1 (W2 rfl ?_ ?_)|refine X2 (W7 rfl ?_ ?_)|refine X3 (W7 rfl ?_ ?_)|refine X4 (W7 rfl ?_ ?_)|refine X5 (W7 rfl ?_ ?_))
   all_goals (try (conv => whnf))
   all_goals (try first|exact obA|refine Ob.mk ?_)
   all_goals (try exact hx (by assumption))
   all_goals (try (refine Rnd.mk ?_; exact hx (by assumption)))
   unfold namedT
   rw [if_neg hne, e]
   exact congrArg (SV.rd intTy) (by rw [show listI t = natI (fin t).L from rfl, List.take_length])
instance wRNamed (t : List NodeD) (nm : List UInt8) : Fn BB 26 [.agg [.rd nodeTy t], .str nm] (treeOk t 45 = true ∧ nm.length ≤ 1000) (.rd intTy (namedT t nm)) := by
 refine Fn.intro (N := 60) [0, 1, 2, 4, 5, 6, 7, 8, 18, 36, 51] [(6, [0, 0, 0, 0, 0, 0, 0, 0, 6, 6])] Tryz.call26 Tryz.func26 rfl rfl (by kernel_rfl) (fun hpre => ?_)
 obtain ⟨ht, hnm⟩ := hpre
 have hl := okLen ht
 repeat' ((conv => whnf);first|(with_reducible first|rfl|exact absTF|exact absFT)|exact True.intro|intro _|refine And.intro ?_ ?_|refine Fin.mk ?_|refine W1 rfl ?_ ?_|refine W2 rfl ?_ ?_|refine W3 rfl ?_ ?_|refine W4 ?_ ?_|refine W5 rfl ?_ ?_|refine W6 ?_ ?_|refine AppN.mk ?_|refine X1 (W1 rfl ?_ ?_)|refine X1 (W2 rfl ?_ ?_)|refine X2 (W7 rfl ?_ ?_)|refine X3 (W7 rfl ?_ ?_)|refine X4 (W7 rfl ?_ ?_)|refine X5 (W7 rfl ?_ ?_))
 all_goals (try (conv => whnf))
 all_goals (try first|exact obA|refine Ob.mk ?_)
 refine LoopStop.mk (α := Nat) (fun k => [(7, .int .i64 k), (5, .own 20)]) (fun k => [(20, .own intTy (((listI t).take k).filter fun i => tellB (nd t i) nm))]) 30 (fun k => k ≤ (listI t).length ∧ (nm = [] → k = 0)) (fun k => (listI t).length - k) 0 ⟨Nat.zero_le _, fun _ => rfl⟩ ?_ (fun k hk => ?_)
 ·all_goals exact vcA
 ·obtain ⟨hk, hk0⟩ := hk
  have hll : (listI t).length ≤ 45 := by have := listI_len t; omega
  have hfl : ((((listI t).take k).filter fun i => tellB (nd t i) nm)).length ≤ 45 := Nat.le_trans (List.length_filter_le _ _) (by rw [List.length_take]; omega)
  by_cases hc : (decide ((k : Int) < ((natI (fin t).L).length : Int)) && !(nm == [])) = true
  ·have hc' := hc
   rw [Bool.and_eq_true, decide_eq_true_eq, Bool.not_eq_true'] at hc'
   have hkl : k < (listI t).length := Int.ofNat_lt.mp hc'.1
   have hne : ¬ nm = [] := fun e => by rw [e] at hc'; exact absurd hc'.2 (by decide)
   have hat : 0 ≤ (natI (fin t).L).getD k intTy.dflt ∧ (natI (fin t).L).getD k intTy.dflt < t.length := listI_at t k hkl _
   have hn := okNode_at (okNode ht _ hat)
   have ht1 : ∀ X : NodeD, (X.1 != 1 || X.2.1 != 0) = true → tellB X nm = false := fun X h => tell_f h
   have ht2 : ∀ X : NodeD, (X.1 != 1 || X.2.1 != 0) = false → tellB X nm = ((getV X.2.2.2.1 idT == nm) || ((spl embT).contains X.2.2.1 && (getV X.2.2.2.1 nameT == nm))) := fun X h => by
    have := tell_t (p := (hasA X.2.2.2.1 idT nm || (hasA X.2.2.2.1 nameT nm && (spl embT).contains X.2.2.1))) h
    unfold tellB
    rw [this, getV_any hne, getV_any hne]
    congr 1
    exact Bool.and_comm _ _
   have fT := filt_t (p := fun i => tellB (nd t i) nm) (L := natI (fin t).L) hkl intTy.dflt
   have fF := filt_f (p := fun i => tellB (nd t i) nm) (L := natI (fin t).L) hkl intTy.dflt
   repeat' ((conv => whnf);first|(with_reducible first|rfl|exact absTF|exact absFT)|exact True.intro|intro _|refine And.intro ?_ ?_|refine Fin.mk ?_|refine W1 rfl ?_ ?_|refine W2 rfl ?_ ?_|refine W3 rfl ?_ ?_|refine W4 ?_ ?_|refine W5 rfl ?_ ?_|refine W6 ?_ ?_|refine AppN.mk ?_|refine X1 (W1 rfl ?_ ?_)|refine X1 (W2 rfl ?_ ?_)|refine X2 (W7 rfl ?_ ?_)|refine X3 (W7 rfl ?_ ?_)|refine X4 (W7 rfl ?_ ?_)|refine X5 (W7 rfl ?_ ?_))
   all_goals (try (conv => whnf))
   all_goals (try first|exact obA|refine Ob.mk ?_)
   all_goals (try simp only [Int.toNat_natCast] at *)
   all_goals (try (exact hat))
   all_goals (try (exfalso; rw [hc] at *; exact absurd (‹true = false›) (by decide)))
   all_goals (try (first | exact Nat.le_trans hn.2.1 (by decide) | (refine ⟨by decide, Nat.le_trans hn.1 (by decide)⟩) | exact Nat.le_trans hn.1 (by decide) | (show embT.length ≤ 100000; decide)))
   all_goals (try simp only [bytes3, bytesB3, List.length_singleton] at *)
   all_goals (try exact ⟨Nat.le_trans (Nat.mul_le_mul_right 8 (Nat.succ_le_succ hfl)) (by decide), Nat.le_trans (Nat.succ_le_succ hfl) (by decide)⟩)
   all_goals (try (have hq := fF (ht1 (nd t ((natI (fin t).L).getD k intTy.dflt)) (by assumption))))
   all_goals (try (have hq := fT ((ht2 (nd t ((natI (fin t).L).getD k intTy.dflt)) (by assumption)).trans (by assumption))))
   all_goals (try (have hq := fF ((ht2 (nd t ((natI (fin t).L).getD k intTy.dflt)) (by assumption)).trans (by assumption))))
   all_goals (first | refine Rnd.mk ⟨k + 1, ⟨by omega, fun e => absurd e hne⟩, by omega, ?_⟩ | trace_state)
   repeat' ((conv => whnf);first|(with_reducible first|rfl|exact absTF|exact absFT)|exact True.intro|intro _|refine And.intro ?_ ?_|refine Fin.mk ?_|refine W1 rfl ?_ ?_|refine W2 rfl ?_ ?_|refine W3 rfl ?_ ?_|refine W4 ?_ ?_|refine W5 rfl ?_ ?_|refine W6 ?_ ?_|refine AppN.mk ?_|refine X1 (W1 rfl ?_ ?_)|refine X1 (W2 rfl ?_ ?_)|refine X2 (W7 rfl ?_ ?_)|refine X3 (W7 rfl ?_ ?_)|refine X4 (W7 rfl ?_ ?_)|refine X5 (W7 rfl ?_ ?_))
   all_goals (try (conv => whnf))
   all_goals (try first|exact obA|refine Ob.mk ?_)
   all_goals (first | rfl | exact congrArg (Chunk.own intTy) hq.symm | trace_state)
  ·have hx : ∀ {p : Prop}, (decide ((k : Int) < ((natI (fin t).L).length : Int)) && !(nm == [])) = true → p := fun h => absurd h hc
   have hr : ((listI t).take k).filter (fun i => tellB (nd t i) nm) = namedT t nm := by
    unfold namedT
    by_cases hne : nm = []
    ·rw [if_pos hne, hk0 hne]; rfl
    ·rw [if_neg hne]
     have : ¬ (k : Int) < ((natI (fin t).L).length : Int) := fun q => hc (by rw [decide_eq_true q, Bool.true_and, Bool.not_eq_true']; exact beq_eq_false_iff_ne.2 hne)
     rw [List.take_of_length_le (by show (natI (fin t).L).length ≤ k; omega)]
   repeat' ((conv => whnf);first|(with_reducible first|rfl|exact absTF|exact absFT)|exact True.intro|intro _|refine And.intro ?_ ?_|refine Fin.mk ?_|refine W1 rfl ?_ ?_|refine W2 rfl ?_ ?_|refine W3 rfl ?_ ?_|refine W4 ?_ ?_|refine W5 rfl ?_ ?_|refine W6 ?_ ?_|refine AppN.mk ?_|refine X1 (W1 rfl ?_ ?_)|refine X1 (W2 rfl ?_ ?_)|refine X2 (W7 rfl ?_ ?_)|refine X3 (W7 rfl ?_ ?_)|refine X4 (W7 rfl ?_ ?_)|refine X5 (W7 rfl ?_ ?_))
   all_goals (try (conv => whnf))
   all_goals (try first|exact obA|refine Ob.mk ?_)
   all_goals (try exact hx (by assumption))
   all_goals (try (refine Rnd.mk ?_; exact hx (by assumption)))
   all_goals (first | exact congrArg (SV.rd intTy) hr | trace_state)
end Go.Vc

namespace Go.Vc
open Go.Proofs
set_option maxRecDepth 10000
set_option maxHeartbeats 4000000
theorem take_cnt (l : List Int) (k : Nat) (x : Int) (h : k < l.length) : ((l.take (k + 1)).count x : Int) = bif l.getD k 0 == x then ((l.take k).count x : Int) + 1 else ((l.take k).count x : Int) := by
 rw [take_snoc l k 0 h, List.count_append, List.count_cons, List.count_nil]
 cases e : l.getD k 0 == x <;> simp
instance rtTimes (l : List Int) (x : Int) : Fn BB 112 [.rd intTy l, .int .i64 x] (l.length ≤ 1000000) (.int .i64 (l.count x : Nat)) := by
 refine Fn.intro (N := 22) [0, 1, 4, 5, 6, 10, 18] [] Tryz.call112 Tryz.func112 rfl rfl (by kernel_rfl) (fun hpre => ?_)
 repeat' ((conv => whnf);first|(with_reducible first|rfl|exact absTF|exact absFT)|exact True.intro|intro _|refine And.intro ?_ ?_|refine Fin.mk ?_|refine W1 rfl ?_ ?_|refine W2 rfl ?_ ?_|refine W3 rfl ?_ ?_|refine W4 ?_ ?_|refine W5 rfl ?_ ?_|refine W6 ?_ ?_|refine AppN.mk ?_|refine X1 (W1 rfl ?_ ?_)|refine X1 (W2 rfl ?_ ?_)|refine X2 (W7 rfl ?_ ?_)|refine X3 (W7 rfl ?_ ?_)|refine X4 (W7 rfl ?_ ?_)|refine X5 (W7 rfl ?_ ?_))
 all_goals (try (conv => whnf))
 all_goals (try first|exact obA|refine Ob.mk ?_)
 refine LoopStop.mk (α := Nat) (fun i => [(6, .int .i64 i), (5, .int .i64 ((l.take i).count x : Nat))]) (fun _ => []) 20 (fun i => i ≤ l.length) (fun i => l.length - i) 0 (Nat.zero_le _) ?_ (fun i hi => ?_)
 ·all_goals exact vcA
 ·have hc : (l.take i).count x ≤ i := Nat.le_trans List.count_le_length (by rw [List.length_take]; omega)
  repeat' ((conv => whnf);first|(with_reducible first|rfl|exact absTF|exact absFT)|exact True.intro|intro _|refine And.intro ?_ ?_|refine Fin.mk ?_|refine W1 rfl ?_ ?_|refine W2 rfl ?_ ?_|refine W3 rfl ?_ ?_|refine W4 ?_ ?_|refine W5 rfl ?_ ?_|refine W6 ?_ ?_|refine AppN.mk ?_|refine X1 (W1 rfl ?_ ?_)|refine X1 (W2 rfl ?_ ?_)|refine X2 (W7 rfl ?_ ?_)|refine X3 (W7 rfl ?_ ?_)|refine X4 (W7 rfl ?_ ?_)|refine X5 (W7 rfl ?_ ?_))
  all_goals (try (conv => whnf))
  all_goals (try first|exact obA|refine Ob.mk ?_)
  all_goals (try simp only [Int.toNat_natCast] at *)
  ·rename_i h1 h2
   have hl : i < l.length := by have := of_decide_eq_true h1; omega
   refine Rnd.mk ⟨i + 1, by omega, by omega, ?_, ?_, ?_⟩
   repeat' ((conv => whnf);first|(with_reducible first|rfl|exact absTF|exact absFT)|exact True.intro|intro _|refine And.intro ?_ ?_|refine Fin.mk ?_|refine W1 rfl ?_ ?_|refine W2 rfl ?_ ?_|refine W3 rfl ?_ ?_|refine W4 ?_ ?_|refine W5 rfl ?_ ?_|refine W6 ?_ ?_|refine AppN.mk ?_|refine X1 (W1 rfl ?_ ?_)|refine X1 (W2 rfl ?_ ?_)|refine X2 (W7 rfl ?_ ?_)|refine X3 (W7 rfl ?_ ?_)|refine X4 (W7 rfl ?_ ?_)|refine X5 (W7 rfl ?_ ?_))
   all_goals (try (conv => whnf))
   all_goals (try first|exact obA|refine Ob.mk ?_)
   all_goals (first | rfl | (rw [take_cnt l i x hl, show (l.getD i 0 == x) = true from h2]; rfl) | trace_state)
  ·rename_i h1 h2
   have hl : i < l.length := by have := of_decide_eq_true h1; omega
   refine Rnd.mk ⟨i + 1, by omega, by omega, ?_, ?_, ?_⟩
   repeat' ((conv => whnf);first|(with_reducible first|rfl|exact absTF|exact absFT)|exact True.intro|intro _|refine And.intro ?_ ?_|refine Fin.mk ?_|refine W1 rfl ?_ ?_|refine W2 rfl ?_ ?_|refine W3 rfl ?_ ?_|refine W4 ?_ ?_|refine W5 rfl ?_ ?_|refine W6 ?_ ?_|refine AppN.mk ?_|refine X1 (W1 rfl ?_ ?_)|refine X1 (W2 rfl ?_ ?_)|refine X2 (W7 rfl ?_ ?_)|refine X3 (W7 rfl ?_ ?_)|refine X4 (W7 rfl ?_ ?_)|refine X5 (W7 rfl ?_ ?_))
   all_goals (try (conv => whnf))
   all_goals (try first|exact obA|refine Ob.mk ?_)
   all_goals (first | rfl | (rw [take_cnt l i x hl, show (l.getD i 0 == x) = false from h2]; rfl) | trace_state)
  ·rename_i h1
   have hl : i = l.length := by have := of_decide_eq_false h1; omega
   rw [hl, List.take_length]
def heldF (t : List NodeD) : Nat → Int → Bool
 | 0, _ => false
 | f + 1, i => bif (nd t i).up == -1 then true else heldF t f (nd t i).up
def upsOk (t : List NodeD) : Prop := ∀ i : Int, 0 ≤ i ∧ i < t.length → (nd t i).up = -1 ∨ (0 ≤ (nd t i).up ∧ (nd t i).up < t.length)
instance rtHeld (t : List NodeD) (i : Int) : Fn BB 113 [.agg [.rd nodeTy t], .int .i64 i] ((0 ≤ i ∧ i < t.length) ∧ upsOk t ∧ t.length ≤ 1000000) (.bool (heldF t (t.length + 1) i)) := by
 refine Fn.intro (N := 26) [0, 1, 2, 4, 5, 10, 19] [] Tryz.call113 Tryz.func113 rfl rfl (by kernel_rfl) (fun hpre => ?_)
 obtain ⟨h1, h2, h3⟩ := hpre
 repeat' ((conv => whnf);first|(with_reducible first|rfl|exact absTF|exact absFT)|exact True.intro|intro _|refine And.intro ?_ ?_|refine Fin.mk ?_|refine W1 rfl ?_ ?_|refine W2 rfl ?_ ?_|refine W3 rfl ?_ ?_|refine W4 ?_ ?_|refine W5 rfl ?_ ?_|refine W6 ?_ ?_|refine AppN.mk ?_|refine X1 (W1 rfl ?_ ?_)|refine X1 (W2 rfl ?_ ?_)|refine X2 (W7 rfl ?_ ?_)|refine X3 (W7 rfl ?_ ?_)|refine X4 (W7 rfl ?_ ?_)|refine X5 (W7 rfl ?_ ?_))
 all_goals (try (conv => whnf))
 all_goals (try first|exact obA|refine Ob.mk ?_)
 refine LoopStop.mk (α := Nat × Int) (fun a => [(5, .int .i64 (a.1 : Nat)), (1, .int .i64 a.2)]) (fun _ => []) 20 (fun a => a.1 ≤ t.length + 1 ∧ (0 ≤ a.2 ∧ a.2 < t.length) ∧ heldF t (t.length + 1) i = heldF t (t.length + 1 - a.1) a.2) (fun a => t.length + 1 - a.1) (0, i) ⟨by simp, h1, rfl⟩ ?_ (fun a ha => ?_)
 ·all_goals exact vcA
 ·obtain ⟨k, j⟩ := a
  obtain ⟨g1, g2, g3⟩ := ha
  dsimp only at g1 g2 g3
  have hu := h2 j g2
  have st : k ≤ t.length → heldF t (t.length + 1 - k) j = bif (nd t j).up == -1 then true else heldF t (t.length + 1 - (k + 1)) (nd t j).up := fun h => by
   rw [show t.length + 1 - k = (t.length - k) + 1 by omega, heldF, show t.length + 1 - (k + 1) = t.length - k by omega]
  repeat' ((conv => whnf);first|(with_reducible first|rfl|exact absTF|exact absFT)|exact True.intro|intro _|refine And.intro ?_ ?_|refine Fin.mk ?_|refine W1 rfl ?_ ?_|refine W2 rfl ?_ ?_|refine W3 rfl ?_ ?_|refine W4 ?_ ?_|refine W5 rfl ?_ ?_|refine W6 ?_ ?_|refine AppN.mk ?_|refine X1 (W1 rfl ?_ ?_)|refine X1 (W2 rfl ?_ ?_)|refine X2 (W7 rfl ?_ ?_)|refine X3 (W7 rfl ?_ ?_)|refine X4 (W7 rfl ?_ ?_)|refine X5 (W7 rfl ?_ ?_))
  all_goals (try (conv => whnf))
  all_goals (try first|exact obA|refine Ob.mk ?_)
  all_goals (try dsimp only at *)
  all_goals (try (exact g2))
  all_goals (try omega)
  ·rename_i c1 c2
   have hk : k ≤ t.length := by have := of_decide_eq_true c1; omega
   rw [g3, st hk, show ((nd t j).up == -1) = true from c2]; rfl
  ·rename_i c1 c2
   have hk : k ≤ t.length := by have := of_decide_eq_true c1; omega
   have hne : (nd t j).up ≠ -1 := fun e => by
    rw [show ((nd t j).up == -1) = true from beq_iff_eq.2 e] at c2
    cases c2
   refine Rnd.mk ⟨(k + 1, (nd t j).up), ⟨by (simp only; omega), by (simp only; exact hu.resolve_left hne), by rw [g3, st hk, show ((nd t j).up == -1) = false from c2]; rfl⟩, by (simp only; omega), ?_, ?_, ?_⟩
   all_goals exact vcA
  ·rename_i c1
   have hk : k = t.length + 1 := by have := of_decide_eq_false c1; omega
   rw [g3, hk, Nat.sub_self]; rfl
end Go.Vc

namespace Go.Vc
open Go.Proofs
set_option maxRecDepth 10000
set_option maxHeartbeats 8000000
def ndR (t : List NodeD) (i : Nat) : NodeD := t.getD i nodeTy.dflt
def badA (t : List NodeD) (i : Nat) : Bool := decide ((i : Int) > 0) && (decide ((ndR t i).1 < 1) || decide ((ndR t i).1 > 4) || decide ((ndR t i).up < -1) || decide ((ndR t i).up ≥ (t.length : Int)))
def badB (t : List NodeD) (i : Nat) : Bool := decide ((ndR t i).up ≥ 0) && (decide ((nd t (ndR t i).up).1 > 1) || ((nd t (ndR t i).up).kids.count (i : Int) : Int) != 1)
def badK (t : List NodeD) (i : Nat) (k : Int) : Bool := decide (k < 0) || decide (k ≥ (t.length : Int)) || (nd t k).up != (i : Int)
def okN (t : List NodeD) (i : Nat) : Bool := !badA t i && !badB t i && (ndR t i).kids.all fun k => !badK t i k
def badR (t : List NodeD) : Bool := (t.length : Int) == 0 || (nd t 0).1 != 0 || (nd t 0).up != -1
def rightB (t : List NodeD) : Bool := !badR t && ((List.range t.length).all (okN t) && (List.range t.length).all fun i => heldF t (t.length + 1) i)
theorem all_range_step (p : Nat → Bool) (n i : Nat) (hi : i < n) (h : p i = false) : (List.range n).all p = false := by
 rw [List.all_eq_false]
 exact ⟨i, List.mem_range.2 hi, by rw [h]; decide⟩
theorem all_range_end (p : Nat → Bool) (n : Nat) (h : ∀ k, k < n → p k = true) : (List.range n).all p = true := by
 rw [List.all_eq_true]
 exact fun k hk => h k (List.mem_range.1 hk)
instance rtRight (t : List NodeD) : Fn BB 56 [.agg [.rd nodeTy t]] (t.length ≤ 1000 ∧ ∀ i, (nd t i).kids.length ≤ 1000) (.bool (rightB t)) := by
  refine Fn.intro (N := 138) [0, 1, 2, 3, 4, 5, 6, 26, 31, 63, 88, 93, 126, 131, 137] [(14, [0, 1, 0, 1, 1, 1, 1, 1, 1, 1, 1, 1, 1, 1, 1, 1, 1, 1, 1, 1, 1, 1, 1, 1, 1, 1, 1, 1, 1, 3, 3])] Tryz.call56 Tryz.func56 rfl rfl (by kernel_rfl) (fun hpre => ?_)
  obtain ⟨h1, h2⟩ := hpre
  have bt : badR t = true → rightB t = false := fun h => by unfold rightB; rw [h]; rfl
  have bf : badR t = false → 0 < t.length := fun h => by
    unfold badR at h
    simp only [Bool.or_eq_false_iff, beq_eq_false_iff_ne] at h
    have := h.1.1; omega
  repeat' ((conv => whnf);first|(with_reducible first|rfl|exact absTF|exact absFT)|exact True.intro|intro _|refine And.intro ?_ ?_|refine Fin.mk ?_|refine W1 rfl ?_ ?_|refine W2 rfl ?_ ?_|refine W3 rfl ?_ ?_|refine W4 ?_ ?_|refine W5 rfl ?_ ?_|refine W6 ?_ ?_|refine AppN.mk ?_|refine X1 (W1 rfl ?_ ?_)|refine X1 (W2 rfl ?_ ?_)|refine X2 (W7 rfl ?_ ?_)|refine X3 (W7 rfl ?_ ?_)|refine X4 (W7 rfl ?_ ?_)|refine X5 (W7 rfl ?_ ?_))
  all_goals (try (conv => whnf))
  all_goals (try first|exact obA|refine Ob.mk ?_)
  all_goals (try (have hz : ¬ t.length = 0 := fun e => by (have h := ‹((t.length : Int) == 0 || _) = false›; rw [Bool.or_eq_false_iff] at h; have := beq_eq_false_iff_ne.1 h.1; omega)))
  all_goals (try omega)
  · exact (bt ‹_›).symm
  have hbad : badR t = false := ‹_›
  have hpos := bf hbad
  have hup0 : (nd t 0).up = -1 := by
    unfold badR at hbad
    simp only [Bool.or_eq_false_iff] at hbad
    have := hbad.2
    simpa using this
  have red : rightB t = ((List.range t.length).all (okN t) && (List.range t.length).all fun i => heldF t (t.length + 1) i) := by unfold rightB; rw [hbad]; rfl
  rw [red]
  refine LoopStop.mk (α := Nat) (fun i => [(3, .int .i64 i)]) (fun _ => []) 20 (fun i => i ≤ t.length ∧ ∀ k, k < i → okN t k = true) (fun i => t.length - i) 0 ⟨Nat.zero_le _, fun k hk => absurd hk (Nat.not_lt_zero _)⟩ ?_ (fun i hi => ?_)
  · all_goals exact vcA
  · obtain ⟨hi, hall⟩ := hi
    have fA : badA t i = true → okN t i = false := fun h => by unfold okN; rw [h]; rfl
    have fB : badB t i = true → okN t i = false := fun h => by unfold okN; rw [h]; simp
    have fU : badA t i = false → i < t.length → (ndR t i).up = -1 ∨ (0 ≤ (ndR t i).up ∧ (ndR t i).up < t.length) := fun h hl => by
      by_cases e : i = 0
      · left; subst e; exact hup0
      · unfold badA at h
        rw [decide_eq_true (by omega), Bool.true_and] at h
        simp only [Bool.or_eq_false_iff] at h
        have a1 := of_decide_eq_false h.1.2
        have a2 := of_decide_eq_false h.2
        omega
    repeat' ((conv => whnf);first|(with_reducible first|rfl|exact absTF|exact absFT)|exact True.intro|intro _|refine And.intro ?_ ?_|refine Fin.mk ?_|refine W1 rfl ?_ ?_|refine W2 rfl ?_ ?_|refine W3 rfl ?_ ?_|refine W4 ?_ ?_|refine W5 rfl ?_ ?_|refine W6 ?_ ?_|refine AppN.mk ?_|refine X1 (W1 rfl ?_ ?_)|refine X1 (W2 rfl ?_ ?_)|refine X2 (W7 rfl ?_ ?_)|refine X3 (W7 rfl ?_ ?_)|refine X4 (W7 rfl ?_ ?_)|refine X5 (W7 rfl ?_ ?_))
    all_goals (try (conv => whnf))
    all_goals (try first|exact obA|refine Ob.mk ?_)
    all_goals (try simp only [Int.toNat_natCast] at *)
    all_goals (try (have hlt : i < t.length := by have := of_decide_eq_true ‹decide ((i : Int) < (t.length : Int)) = true›; omega))
    all_goals (try (have hA : badA t i = false := by assumption))
    all_goals (try (have hUp := fU hA hlt))
    all_goals (try (have hge := of_decide_eq_true (show decide ((ndR t i).up ≥ 0) = true by assumption); first
      | exact hUp.resolve_left (by omega)
      | exact Nat.le_trans (h2 _) (by omega)
      | (show Int.toNat (ndR t i).up < _; omega)))
    all_goals (try (rw [all_range_step _ _ i hlt (fA (by assumption))]; rfl))
    all_goals (try (rw [all_range_step _ _ i hlt (fB (by assumption))]; rfl))
    · have hB : badB t i = false := by assumption
      have fK : ∀ k, k ∈ (ndR t i).kids → badK t i k = true → okN t i = false := fun k hk h => by
        unfold okN
        rw [hA, hB]
        simp only [Bool.not_false, Bool.true_and, List.all_eq_false]
        exact ⟨k, hk, by rw [h]; decide⟩
      have hkl : (ndR t i).kids.length ≤ 1000 := by have := h2 (i : Int); unfold nd at this; rw [Int.toNat_natCast] at this; exact this
      refine LoopStop.mk (α := Nat) (fun j => [(5, .int .i64 j)]) (fun _ => []) 60 (fun j => j ≤ (ndR t i).kids.length ∧ ∀ k, k < j → badK t i ((ndR t i).kids.getD k 0) = false) (fun j => (ndR t i).kids.length - j) 0 ⟨Nat.zero_le _, fun k hk => absurd hk (Nat.not_lt_zero _)⟩ ?_ (fun j hj => ?_)
      · all_goals exact vcA
      · obtain ⟨hj, hjall⟩ := hj
        repeat' ((conv => whnf);first|(with_reducible first|rfl|exact absTF|exact absFT)|exact True.intro|intro _|refine And.intro ?_ ?_|refine Fin.mk ?_|refine W1 rfl ?_ ?_|refine W2 rfl ?_ ?_|refine W3 rfl ?_ ?_|refine W4 ?_ ?_|refine W5 rfl ?_ ?_|refine W6 ?_ ?_|refine AppN.mk ?_|refine X1 (W1 rfl ?_ ?_)|refine X1 (W2 rfl ?_ ?_)|refine X2 (W7 rfl ?_ ?_)|refine X3 (W7 rfl ?_ ?_)|refine X4 (W7 rfl ?_ ?_)|refine X5 (W7 rfl ?_ ?_))
        all_goals (try (conv => whnf))
        all_goals (try first|exact obA|refine Ob.mk ?_)
        all_goals (try simp only [Int.toNat_natCast] at *)
        all_goals (try (have hjl : j < (ndR t i).kids.length := by have := of_decide_eq_true (show decide ((j : Int) < ((ndR t i).kids.length : Int)) = true by assumption); omega))
        · have h := ‹(decide (_ < (0 : Int)) || decide (_ ≥ (t.length : Int))) = false›
          rw [Bool.or_eq_false_iff] at h
          have a1 := of_decide_eq_false h.1
          have a2 := of_decide_eq_false h.2
          omega
        · have hmem : (ndR t i).kids.getD j 0 ∈ (ndR t i).kids := by
            have e : (ndR t i).kids.getD j 0 = (ndR t i).kids[j] := by simp [List.getD, hjl]
            rw [e]; exact List.getElem_mem _
          rw [all_range_step _ _ i hlt (fK _ hmem (by assumption))]; rfl
        · have hk : badK t i ((ndR t i).kids.getD j 0) = false := by assumption
          refine Rnd.mk ⟨j + 1, ⟨by omega, fun k hk' => by (rcases Nat.lt_or_ge k j with q | q); exact hjall k q; (have : k = j := by omega); subst this; exact hk⟩, by omega, ?_, ?_, ?_⟩
          all_goals exact vcA
        · have hje : j = (ndR t i).kids.length := by have := of_decide_eq_false (show decide ((j : Int) < ((ndR t i).kids.length : Int)) = false by assumption); omega
          have hok : okN t i = true := by
            unfold okN
            rw [hA, hB]
            simp only [Bool.not_false, Bool.true_and, List.all_eq_true]
            intro k hk
            obtain ⟨m, hm, rfl⟩ := List.getElem_of_mem hk
            have := hjall m (by omega)
            rw [show (ndR t i).kids.getD m 0 = (ndR t i).kids[m] by simp [List.getD, hm]] at this
            rw [this]; rfl
          refine Rnd.mk ⟨i + 1, ⟨by omega, fun k hk' => by (rcases Nat.lt_or_ge k i with q | q); exact hall k q; (have : k = i := by omega); subst this; exact hok⟩, by omega, ?_, ?_, ?_⟩
          all_goals exact vcA
    · have hie : i = t.length := by have := of_decide_eq_false ‹decide ((i : Int) < (t.length : Int)) = false›; omega
      have e1 : (List.range t.length).all (okN t) = true := all_range_end _ _ (fun k hk => hall k (by omega))
      have hups : upsOk t := fun x hx => by
        have hx2 : x.toNat < t.length := by omega
        have h := hall x.toNat (by omega)
        have hA : badA t x.toNat = false := by unfold okN at h; cases e : badA t x.toNat <;> rw [e] at h <;> simp_all
        have e3 : ndR t x.toNat = nd t x := rfl
        by_cases e : x.toNat = 0
        · left
          have : x = 0 := by omega
          subst this; exact hup0
        · unfold badA at hA
          rw [decide_eq_true (by omega), Bool.true_and, e3] at hA
          simp only [Bool.or_eq_false_iff] at hA
          have a1 := of_decide_eq_false hA.1.2
          have a2 := of_decide_eq_false hA.2
          omega
      rw [e1, Bool.true_and]
      refine LoopStop.mk (α := Nat) (fun j => [(6, .int .i64 j)]) (fun _ => []) 60 (fun j => j ≤ t.length ∧ ∀ k, k < j → heldF t (t.length + 1) (k : Nat) = true) (fun j => t.length - j) 0 ⟨Nat.zero_le _, fun k hk => absurd hk (Nat.not_lt_zero _)⟩ ?_ (fun j hj => ?_)
      · all_goals exact vcA
      · obtain ⟨hj, hjall⟩ := hj
        repeat' ((conv => whnf);first|(with_reducible first|rfl|exact absTF|exact absFT)|exact True.intro|intro _|refine And.intro ?_ ?_|refine Fin.mk ?_|refine W1 rfl ?_ ?_|refine W2 rfl ?_ ?_|refine W3 rfl ?_ ?_|refine W4 ?_ ?_|refine W5 rfl ?_ ?_|refine W6 ?_ ?_|refine AppN.mk ?_|refine X1 (W1 rfl ?_ ?_)|refine X1 (W2 rfl ?_ ?_)|refine X2 (W7 rfl ?_ ?_)|refine X3 (W7 rfl ?_ ?_)|refine X4 (W7 rfl ?_ ?_)|refine X5 (W7 rfl ?_ ?_))
        all_goals (try (conv => whnf))
        all_goals (try first|exact obA|refine Ob.mk ?_)
        all_goals (try simp only [Int.toNat_natCast] at *)
        all_goals (try (have hjl : j < t.length := by have := of_decide_eq_true ‹decide ((j : Int) < (t.length : Int)) = true›; omega))
        all_goals (try exact ⟨by omega, hups, by omega⟩)
        · have h : heldF t (t.length + 1) (j : Nat) = false := by simpa using ‹(!heldF t (t.length + 1) _) = true›
          rw [all_range_step _ _ j hjl h]
        · have h : heldF t (t.length + 1) (j : Nat) = true := by simpa using ‹(!heldF t (t.length + 1) _) = false›
          refine Rnd.mk ⟨j + 1, ⟨by omega, fun k hk' => by (rcases Nat.lt_or_ge k j with q | q); exact hjall k q; (have : k = j := by omega); subst this; exact h⟩, by omega, ?_, ?_, ?_⟩
          all_goals exact vcA
        · have hje : j = t.length := by have := of_decide_eq_false ‹decide ((j : Int) < (t.length : Int)) = false›; omega
          rw [all_range_end _ _ (fun k hk => hjall k (by omega))]
end Go.Vc

namespace Go.Vc
open Go.Proofs
set_option maxRecDepth 10000
set_option maxHeartbeats 4000000
theorem take_eq_succI {a b : List Int} {i : Nat} (ha : i < a.length) (hb : i < b.length) (h : a.take i = b.take i) (h2 : a.getD i 0 = b.getD i 0) : a.take (i+1) = b.take (i+1) := by
 rw [take_snoc a i 0 ha, take_snoc b i 0 hb, h, h2]
instance aEq (a b : List Int) : Fn BB 24 [.rd intTy a, .rd intTy b] True (.bool (a == b)) := by
 refine Fn.intro (N := 26) [0, 1, 4, 5, 10, 12, 13, 14, 24] [(6, [0, 0, 1, 1, 0, 0, 1, 1, 3])] Tryz.call24 Tryz.func24 rfl rfl (by kernel_rfl) (fun hpre => ?_)
 repeat' ((conv => whnf);first|(with_reducible first|rfl|exact absTF|exact absFT)|exact True.intro|intro _|refine And.intro ?_ ?_|refine Fin.mk ?_|refine W1 rfl ?_ ?_|refine W2 rfl ?_ ?_|refine W3 rfl ?_ ?_|refine W4 ?_ ?_|refine W5 rfl ?_ ?_|refine W6 ?_ ?_|refine AppN.mk ?_|refine X1 (W1 rfl ?_ ?_)|refine X1 (W2 rfl ?_ ?_)|refine X2 (W7 rfl ?_ ?_)|refine X3 (W7 rfl ?_ ?_)|refine X4 (W7 rfl ?_ ?_)|refine X5 (W7 rfl ?_ ?_))
 all_goals (try (conv => whnf))
 all_goals (try first|exact obA|refine Ob.mk ?_)
 ·rename_i h
  have : ¬ a = b := by rintro rfl; simp at h
  simp [this]
 ·refine LoopStop.mk (α := Nat) (fun i => [(13, .int .i64 i)]) (fun i => []) 0 (fun i => i ≤ a.length ∧ a.take i = b.take i) (fun i => a.length - i) 0 (by simp) ?_ (fun i hi => ?_)
  ·repeat' ((conv => whnf);first|(with_reducible first|rfl|exact absTF|exact absFT)|exact True.intro|intro _|refine And.intro ?_ ?_|refine Fin.mk ?_|refine W1 rfl ?_ ?_|refine W2 rfl ?_ ?_|refine W3 rfl ?_ ?_|refine W4 ?_ ?_|refine W5 rfl ?_ ?_|refine W6 ?_ ?_|refine AppN.mk ?_|refine X1 (W1 rfl ?_ ?_)|refine X1 (W2 rfl ?_ ?_)|refine X2 (W7 rfl ?_ ?_)|refine X3 (W7 rfl ?_ ?_)|refine X4 (W7 rfl ?_ ?_)|refine X5 (W7 rfl ?_ ?_))
   all_goals (try (conv => whnf))
   all_goals (try rfl)
  ·repeat' ((conv => whnf);first|(with_reducible first|rfl|exact absTF|exact absFT)|exact True.intro|intro _|refine And.intro ?_ ?_|refine Fin.mk ?_|refine W1 rfl ?_ ?_|refine W2 rfl ?_ ?_|refine W3 rfl ?_ ?_|refine W4 ?_ ?_|refine W5 rfl ?_ ?_|refine W6 ?_ ?_|refine AppN.mk ?_|refine X1 (W1 rfl ?_ ?_)|refine X1 (W2 rfl ?_ ?_)|refine X2 (W7 rfl ?_ ?_)|refine X3 (W7 rfl ?_ ?_)|refine X4 (W7 rfl ?_ ?_)|refine X5 (W7 rfl ?_ ?_))
   all_goals (try (conv => whnf))
   all_goals (try first|exact obA|refine Ob.mk ?_)
   all_goals (try simp only [ZA,ZB,ZC,ZD,ZE,ZF,ZG,ZH,ZI,ZJ,ZK,ZL,ZM,ZN,ZO,Int.toNat_natCast,UInt8.ofNat_toNat,cast_eq] at *)
   all_goals (try omega)
   ·rename_i h
    have : ¬ a = b := by rintro rfl; exact h rfl
    simp [this]
   ·have h : i < a.length := by omega
    have h' : i < b.length := by omega
    refine Rnd.mk ⟨i + 1, ?_, ?_, ?_⟩
    ·exact ⟨h, take_eq_succI h h' hi.2 ‹_›⟩
    ·omega
    ·all_goals exact vcA
   ·have e : i = a.length := by omega
    subst e
    have h2 := hi.2
    have h3 : b.length ≤ a.length := by omega
    rw [List.take_of_length_le (Nat.le_refl _), List.take_of_length_le h3] at h2
    rw [h2]; simp
end Go.Vc

namespace Go.Vc
open Go.Proofs
open Go.Vc.W
set_option maxRecDepth 10000
set_option maxHeartbeats 4000000
theorem okKids {t : List NodeD} {m : Int} (h : treeOk t m = true) (i : Int) : (nd t i).kids.length ≤ 60 := by
 by_cases hi : 0 ≤ i ∧ i < t.length
 ·exact (okNode_at (okNode h i hi)).2.2.2
 ·by_cases h2 : i.toNat < t.length
  ·have e : nd t i = nd t (i.toNat : Int) := rfl
   rw [e]; exact (okNode_at (okNode h (i.toNat : Int) ⟨by omega, by omega⟩)).2.2.2
  ·have : nd t i = nodeTy.dflt := by unfold nd; rw [List.getD_eq_getElem?_getD, List.getElem?_eq_none (by omega)]; rfl
   rw [this]; decide
instance iRight (t : List NodeD) (m : Int) : Fn BB 11 [.agg [.rd nodeTy t], .int .i64 m] (m ≤ 45) (.bool (treeOk t m && rightB t)) := by
 refine Fn.intro (N := 12) [0, 1, 2, 4] [] Tryz.call11 Tryz.func11 rfl rfl (by kernel_rfl) (fun hpre => ?_)
 repeat' ((conv => whnf);first|(with_reducible first|rfl|exact absTF|exact absFT)|exact True.intro|intro _|refine And.intro ?_ ?_|refine Fin.mk ?_|refine W1 rfl ?_ ?_|refine W2 rfl ?_ ?_|refine W3 rfl ?_ ?_|refine W4 ?_ ?_|refine W5 rfl ?_ ?_|refine W6 ?_ ?_|refine AppN.mk ?_|refine X1 (W1 rfl ?_ ?_)|refine X1 (W2 rfl ?_ ?_)|refine X2 (W7 rfl ?_ ?_)|refine X3 (W7 rfl ?_ ?_)|refine X4 (W7 rfl ?_ ?_)|refine X5 (W7 rfl ?_ ?_))
 all_goals (try (conv => whnf))
 all_goals (try first|exact obA|refine Ob.mk ?_)
 all_goals (have h1 := okLen ‹treeOk t m = true›; exact ⟨by omega, fun i => Nat.le_trans (okKids ‹treeOk t m = true› i) (by decide)⟩)
def valT (t : List NodeD) (i : Int) (nm : List UInt8) : List UInt8 := if 0 ≤ i ∧ i < t.length then getV (nd t i).2.2.2.1 nm else []
def firstB (el nm v : List UInt8) (n : NodeD) : Bool := n.1 == 1 && ((el == []) || (n.2.1 == 0 && n.2.2.1 == el)) && (getV n.2.2.2.1 nm == v)
def findT (t : List NodeD) (el nm v : List UInt8) : Int := if v = [] then 0 else ((listI t).find? fun i => firstB el nm v (nd t i)).getD 0
instance iValue (t : List NodeD) (i : Int) (nm : List UInt8) : Fn BB 27 [.agg [.rd nodeTy t], .int .i64 i, .str nm] (treeOk t 45 = true) (.str (valT t i nm)) := by
 refine Fn.intro (N := 30) [0, 1, 2, 3, 6, 7, 17] [] Tryz.call27 Tryz.func27 rfl rfl (by kernel_rfl) (fun hpre => ?_)
 have ht : (decide (i < 0) || decide (i ≥ (t.length : Int))) = true → valT t i nm = [] := fun h => by
  simp only [Bool.or_eq_true, decide_eq_true_eq] at h
  unfold valT; rw [if_neg (by omega)]
 have hf : (decide (i < 0) || decide (i ≥ (t.length : Int))) = false → (0 ≤ i ∧ i < t.length) ∧ valT t i nm = getV (nd t i).2.2.2.1 nm := fun h => by
  simp only [Bool.or_eq_false_iff, decide_eq_false_iff_not] at h
  refine ⟨by omega, ?_⟩
  unfold valT; rw [if_pos (by omega)]
 repeat' ((conv => whnf);first|(with_reducible first|rfl|exact absTF|exact absFT)|exact True.intro|intro _|refine And.intro ?_ ?_|refine Fin.mk ?_|refine W1 rfl ?_ ?_|refine W2 rfl ?_ ?_|refine W3 rfl ?_ ?_|refine W4 ?_ ?_|refine W5 rfl ?_ ?_|refine W6 ?_ ?_|refine AppN.mk ?_|refine X1 (W1 rfl ?_ ?_)|refine X1 (W2 rfl ?_ ?_)|refine X2 (W7 rfl ?_ ?_)|refine X3 (W7 rfl ?_ ?_)|refine X4 (W7 rfl ?_ ?_)|refine X5 (W7 rfl ?_ ?_))
 all_goals (try (conv => whnf))
 all_goals (try first|exact obA|refine Ob.mk ?_)
 all_goals (first | exact (ht ‹_›).symm | exact (hf ‹_›).1 | exact (hf ‹_›).2.symm | exact Nat.le_trans (okNode_at (okNode hpre i (hf ‹_›).1)).2.1 (by decide) | trace_state)
theorem findF {p : Int → Bool} : ∀ {L : List Int} {k : Nat}, k < L.length → (∀ j, j < k → p (L.getD j 0) = false) → p (L.getD k 0) = true → L.find? p = some (L.getD k 0) := by
 intro L
 induction L with
 | nil => intro k h; exact absurd h (Nat.not_lt_zero _)
 | cons a L ih =>
  intro k h h0 h1
  cases k with
  | zero => rw [List.find?_cons]; simp only [List.getD_cons_zero] at *; rw [h1]
  | succ k =>
   have ha := h0 0 (Nat.succ_pos _)
   rw [List.getD_cons_zero] at ha
   rw [List.find?_cons, ha]
   exact ih (Nat.lt_of_succ_lt_succ h) (fun j hj => h0 (j + 1) (Nat.succ_lt_succ hj)) h1
theorem findF_none {p : Int → Bool} {L : List Int} (h0 : ∀ j, j < L.length → p (L.getD j 0) = false) : L.find? p = none := by
 rw [List.find?_eq_none]
 intro x hx
 obtain ⟨j, hj, e⟩ := List.mem_iff_getElem.1 hx
 have := h0 j hj
 rw [List.getD_eq_getElem?_getD, List.getElem?_eq_getElem hj] at this
 simp only [Option.getD_some, e] at this
 rw [this]; decide
theorem firstB_eq {el nm v : List UInt8} {t : List NodeD} {i : Int} (hi : 0 ≤ i ∧ i < t.length) : firstB el nm v (nd t i) = ((nd t i).1 == 1 && (el == [] || (nd t i).2.1 == 0 && (nd t i).2.2.1 == el) && valT t i nm == v) := by
 unfold firstB valT; rw [if_pos hi]
instance iFind (t : List NodeD) (el nm v : List UInt8) : Fn BB 87 [.agg [.rd nodeTy t], .str el, .str nm, .str v] (treeOk t 45 = true) (.int .i64 (findT t el nm v)) := by
 refine Fn.intro (N := 65) [0, 1, 2, 3, 4, 8, 9, 10, 11, 21, 60] [(5, [0, 0, 0, 0, 0, 0, 0, 0, 6, 6]), (6, [0, 1, 1, 1, 1, 1, 1, 1, 1, 1, 1, 1, 1, 1, 1, 1, 1, 1, 1, 1, 1, 1, 1, 1, 1, 1, 1, 3, 3])] Tryz.call87 Tryz.func87 rfl rfl (by kernel_rfl) (fun hpre => ?_)
 have hl := okLen hpre
 repeat' ((conv => whnf);first|(with_reducible first|rfl|exact absTF|exact absFT)|exact True.intro|intro _|refine And.intro ?_ ?_|refine Fin.mk ?_|refine W1 rfl ?_ ?_|refine W2 rfl ?_ ?_|refine W3 rfl ?_ ?_|refine W4 ?_ ?_|refine W5 rfl ?_ ?_|refine W6 ?_ ?_|refine AppN.mk ?_|refine X1 (W1 rfl ?_ ?_)|refine X1 (W2 rfl ?_ ?_)|refine X2 (W7 rfl ?_ ?_)|refine X3 (W7 rfl ?_ ?_)|refine X4 (W7 rfl ?_ ?_)|refine X5 (W7 rfl ?_ ?_))
 all_goals (try (conv => whnf))
 all_goals (try first|exact obA|refine Ob.mk ?_)
 refine LoopStop.mk (α := Nat) (fun k => [(10, .int .i64 k)]) (fun _ => []) 30 (fun k => k ≤ (listI t).length ∧ (v = [] → k = 0) ∧ ∀ j, j < k → firstB el nm v (nd t ((listI t).getD j 0)) = false) (fun k => (listI t).length - k) 0 ⟨Nat.zero_le _, fun _ => rfl, fun j hj => absurd hj (Nat.not_lt_zero _)⟩ ?_ (fun k hk => ?_)
 ·all_goals exact vcA
 ·obtain ⟨hk, hk0, hkj⟩ := hk
  by_cases hc : (decide ((k : Int) < ((natI (fin t).L).length : Int)) && !(v == [])) = true
  ·have hc' := hc
   rw [Bool.and_eq_true, decide_eq_true_eq, Bool.not_eq_true'] at hc'
   have hkl : k < (listI t).length := Int.ofNat_lt.mp hc'.1
   have hne : ¬ v = [] := fun e => by rw [e] at hc'; exact absurd hc'.2 (by decide)
   have hat : 0 ≤ (natI (fin t).L).getD k intTy.dflt ∧ (natI (fin t).L).getD k intTy.dflt < t.length := listI_at t k hkl _
   have hfb := firstB_eq (el := el) (nm := nm) (v := v) hat
   repeat' ((conv => whnf);first|(with_reducible first|rfl|exact absTF|exact absFT)|exact True.intro|intro _|refine And.intro ?_ ?_|refine Fin.mk ?_|refine W1 rfl ?_ ?_|refine W2 rfl ?_ ?_|refine W3 rfl ?_ ?_|refine W4 ?_ ?_|refine W5 rfl ?_ ?_|refine W6 ?_ ?_|refine AppN.mk ?_|refine X1 (W1 rfl ?_ ?_)|refine X1 (W2 rfl ?_ ?_)|refine X2 (W7 rfl ?_ ?_)|refine X3 (W7 rfl ?_ ?_)|refine X4 (W7 rfl ?_ ?_)|refine X5 (W7 rfl ?_ ?_))
   all_goals (try (conv => whnf))
   all_goals (try first|exact obA|refine Ob.mk ?_)
   all_goals (try simp only [Int.toNat_natCast] at *)
   all_goals (try (exact hat))
   ·unfold findT
    rw [if_neg hne, findF (p := fun i => firstB el nm v (nd t i)) hkl hkj (hfb.trans ‹_›)]
    rfl
   ·refine Rnd.mk ⟨k + 1, ⟨by omega, fun e => absurd e hne, fun j hj => ?_⟩, by omega, ?_⟩
    ·rcases Nat.lt_or_ge j k with q | q
     ·exact hkj j q
     ·have e : j = k := by omega
      rw [e]; exact hfb.trans ‹_›
    ·all_goals exact vcA
   all_goals (exact absurd (hc.symm.trans ‹(decide ((k : Int) < ((natI (fin t).L).length : Int)) && !(v == [])) = false›) (by decide))
  ·have hx : ∀ {p : Prop}, (decide ((k : Int) < ((natI (fin t).L).length : Int)) && !(v == [])) = true → p := fun h => absurd h hc
   have hr : (0 : Int) = findT t el nm v := by
    unfold findT
    by_cases hne : v = []
    ·rw [if_pos hne]
    ·rw [if_neg hne]
     have : ¬ (k : Int) < ((natI (fin t).L).length : Int) := fun q => hc (by rw [decide_eq_true q, Bool.true_and, Bool.not_eq_true']; exact beq_eq_false_iff_ne.2 hne)
     rw [findF_none (p := fun i => firstB el nm v (nd t i)) (fun j hj => hkj j (by have h : (listI t).length = (natI (fin t).L).length := rfl; omega))]
     rfl
   repeat' ((conv => whnf);first|(with_reducible first|rfl|exact absTF|exact absFT)|exact True.intro|intro _|refine And.intro ?_ ?_|refine Fin.mk ?_|refine W1 rfl ?_ ?_|refine W2 rfl ?_ ?_|refine W3 rfl ?_ ?_|refine W4 ?_ ?_|refine W5 rfl ?_ ?_|refine W6 ?_ ?_|refine AppN.mk ?_|refine X1 (W1 rfl ?_ ?_)|refine X1 (W2 rfl ?_ ?_)|refine X2 (W7 rfl ?_ ?_)|refine X3 (W7 rfl ?_ ?_)|refine X4 (W7 rfl ?_ ?_)|refine X5 (W7 rfl ?_ ?_))
   all_goals (try (conv => whnf))
   all_goals (try first|exact obA|refine Ob.mk ?_)
   all_goals (try exact hx (by assumption))
   all_goals (try (refine Rnd.mk ?_; exact hx (by assumption)))
   all_goals (first | exact hr | trace_state)
def firstT (t : List NodeD) (v : List UInt8) : Int := findT t [] idT v
instance iFirst (t : List NodeD) (v : List UInt8) : Fn BB 28 [.agg [.rd nodeTy t], .str v] (treeOk t 45 = true) (.int .i64 (firstT t v)) := by
 refine Fn.intro (N := 8) [0, 1, 2, 4] [] Tryz.call28 Tryz.func28 rfl rfl (by kernel_rfl) (fun hpre => ?_)
 repeat' ((conv => whnf);first|(with_reducible first|rfl|exact absTF|exact absFT)|exact True.intro|intro _|refine And.intro ?_ ?_|refine Fin.mk ?_|refine W1 rfl ?_ ?_|refine W2 rfl ?_ ?_|refine W3 rfl ?_ ?_|refine W4 ?_ ?_|refine W5 rfl ?_ ?_|refine W6 ?_ ?_|refine AppN.mk ?_|refine X1 (W1 rfl ?_ ?_)|refine X1 (W2 rfl ?_ ?_)|refine X2 (W7 rfl ?_ ?_)|refine X3 (W7 rfl ?_ ?_)|refine X4 (W7 rfl ?_ ?_)|refine X5 (W7 rfl ?_ ?_))
 all_goals (try (conv => whnf))
 all_goals (try first|exact obA|refine Ob.mk ?_)
 all_goals (first | exact hpre | rfl)
end Go.Vc

namespace Go.Vc
open Go.Proofs
open Go.Vc.W
set_option maxRecDepth 10000
set_option maxHeartbeats 4000000
theorem listF {t : List NodeD} {f : Nat} {l : List Int} (h : (finF t f).map (fun y => natI y.L) = some l) : listI t = l := by
 cases e : finF t f with
 | none => rw [e] at h; cases h
 | some y => rw [e] at h; unfold listI; rw [finF_eq e]; exact Option.some.inj h
theorem ZW_list : listI ZW_T = [0, 1, 2, 3] := listF (f := 60) (by decide +kernel)
theorem ZW_a : namedT ZW_T [97] = [1, 2] := by unfold namedT; rw [ZW_list]; decide +kernel
theorem ZW_b : namedT ZW_T [98] = [1] := by unfold namedT; rw [ZW_list]; decide +kernel
theorem ZW_e : namedT ZW_T [] = [] := rfl
theorem ZW_ok : treeOk ZW_T 45 = true := by decide +kernel
instance wAwake : Fn BB 23 [] True (.bool true) := by
 refine Fn.intro (N := 19) [0, 1] [] Tryz.call23 Tryz.func23 rfl rfl (by kernel_rfl) (fun hpre => ?_)
 repeat' ((conv => whnf);first|(with_reducible first|rfl|exact absTF|exact absFT)|exact True.intro|intro _|refine And.intro ?_ ?_|refine Fin.mk ?_|refine W1 rfl ?_ ?_|refine W2 rfl ?_ ?_|refine W3 rfl ?_ ?_|refine W4 ?_ ?_|refine W5 rfl ?_ ?_|refine W6 ?_ ?_|refine AppN.mk ?_|refine X1 (W1 rfl ?_ ?_)|refine X1 (W2 rfl ?_ ?_)|refine X2 (W7 rfl ?_ ?_)|refine X3 (W7 rfl ?_ ?_)|refine X4 (W7 rfl ?_ ?_)|refine X5 (W7 rfl ?_ ?_))
 all_goals (try (conv => whnf))
 all_goals (try first|exact obA|refine Ob.mk ?_)
 all_goals (first | exact ⟨ZW_ok, by decide⟩ | (rw [ZW_a, ZW_b, ZW_e]; decide))
theorem treeOk_le {t : List NodeD} {m n : Int} (h : treeOk t m = true) (hm : m ≤ n) : treeOk t n = true := by
 unfold treeOk at *
 rw [Bool.and_eq_true, decide_eq_true_eq] at *
 exact ⟨by omega, h.2⟩
theorem named_at {t : List NodeD} {nm : List UInt8} {k : Nat} (h : k < (namedT t nm).length) (d : Int) : ¬ nm = [] ∧ (0 ≤ (namedT t nm).getD k d ∧ (namedT t nm).getD k d < t.length) ∧ tellB (nd t ((namedT t nm).getD k d)) nm = true := by
 have hne : ¬ nm = [] := fun e => by unfold namedT at h; rw [if_pos e] at h; exact absurd h (Nat.not_lt_zero _)
 have hm : (namedT t nm).getD k d ∈ namedT t nm := by rw [List.getD_eq_getElem?_getD, List.getElem?_eq_getElem h]; exact List.getElem_mem _
 generalize (namedT t nm).getD k d = x at hm ⊢
 unfold namedT at hm
 rw [if_neg hne, List.mem_filter] at hm
 refine ⟨hne, ?_, hm.2⟩
 obtain ⟨j, hj, e⟩ := List.mem_iff_getElem.1 hm.1
 have := listI_at t j hj 0
 rw [List.getD_eq_getElem?_getD, List.getElem?_eq_getElem hj] at this
 rw [← e]; exact this
theorem root_kind {t : List NodeD} (h : rightB t = true) : (nd t 0).1 = 0 := by
 unfold rightB badR at h
 simp only [Bool.and_eq_true, Bool.not_eq_true', Bool.or_eq_false_iff, bne_eq_false_iff_eq] at h
 exact h.1.1.2
theorem tell_kind {n : NodeD} {nm : List UInt8} (h : tellB n nm = true) : n.1 = 1 ∧ n.2.1 = 0 := by
 unfold tellB at h
 simp only [Bool.and_eq_true, beq_iff_eq] at h
 exact h.1
theorem has_cond {t : List NodeD} {nm : List UInt8} (hr : rightB t = true) {k : Nat} (h : k < (namedT t nm).length) (d : Int) :
  (decide ((namedT t nm).getD k d ≤ 0) || decide ((namedT t nm).getD k d ≥ (t.length : Int)) || (valT t ((namedT t nm).getD k d) idT != nm && valT t ((namedT t nm).getD k d) nameT != nm)) = false := by
 obtain ⟨hne, hi, ht⟩ := named_at h d
 generalize (namedT t nm).getD k d = x at hi ht ⊢
 have hk := tell_kind ht
 have h0 : x ≠ 0 := fun e => by
  rw [e, root_kind hr] at hk
  exact absurd (show (0 : Int) = 1 from hk.1) (by decide)
 have hv : ∀ a, valT t x a = getV (nd t x).2.2.2.1 a := fun a => by unfold valT; rw [if_pos hi]
 rw [hv, hv, decide_eq_false (by omega), decide_eq_false (by omega), Bool.false_or, Bool.false_or]
 unfold tellB at ht
 rw [getV_any hne, getV_any hne] at ht
 simp only [Bool.and_eq_true, Bool.or_eq_true] at ht
 rcases ht.2 with q | q
 ·rw [beq_iff_eq.1 q]; simp
 ·rw [beq_iff_eq.1 q.1]; simp
theorem first_in {t : List NodeD} {nm : List UInt8} (h : ¬ firstT t nm = 0) : (0 ≤ firstT t nm ∧ firstT t nm < t.length) ∧ ((nd t (firstT t nm)).2.1 = 0 → (namedT t nm).contains (firstT t nm) = true) := by
 have hne : ¬ nm = [] := fun e => h (by unfold firstT findT; rw [if_pos e])
 cases hf : (listI t).find? fun i => firstB [] idT nm (nd t i) with
 | none => exact absurd (by unfold firstT findT; rw [if_neg hne, hf]; rfl) h
 | some x =>
  have e : firstT t nm = x := by unfold firstT findT; rw [if_neg hne, hf]; rfl
  rw [e]
  have hm := List.mem_of_find?_eq_some hf
  have hp := List.find?_some hf
  obtain ⟨j, hj, ej⟩ := List.mem_iff_getElem.1 hm
  have hi := listI_at t j hj 0
  rw [List.getD_eq_getElem?_getD, List.getElem?_eq_getElem hj] at hi
  simp only [Option.getD_some, ej] at hi
  refine ⟨hi, fun hs => ?_⟩
  rw [List.contains_iff_mem]
  unfold namedT
  rw [if_neg hne, List.mem_filter]
  refine ⟨hm, ?_⟩
  unfold firstB at hp
  simp only [Bool.and_eq_true] at hp
  unfold tellB
  rw [getV_any hne, hp.2, hp.1.1, hs]
  rfl
theorem ixI_has (l : List Int) (w : Int) : decide (ixOf l w ≥ 0) = l.contains w := by
 unfold ixOf
 cases l.contains w with
 | true => exact decide_eq_true (by simp)
 | false => rfl
theorem first_fin {t : List NodeD} {nm : List UInt8} : ((firstT t nm == 0 || (nd t (firstT t nm)).2.1 != 0 || decide (ixOf (namedT t nm) (firstT t nm) ≥ 0)) && true) = true := by
 rw [ixI_has, Bool.and_true]
 by_cases h : firstT t nm = 0
 ·rw [h]; rfl
 ·by_cases h2 : (nd t (firstT t nm)).2.1 = 0
  ·rw [(first_in h).2 h2, Bool.or_true]
  ·rw [show ((nd t (firstT t nm)).2.1 != 0) = true from bne_iff_ne.2 h2]
   simp
instance wTells (t : List NodeD) (nm : List UInt8) : Fn BB 4 [.agg [.rd nodeTy t], .str nm] True (.bool true) := by
 refine Fn.intro (N := 24) [0, 1, 2, 4, 12] [(3, [1, 0, 1, 1, 0, 3, 3, 3, 3, 3, 3])] Tryz.call4 Tryz.func4 rfl rfl (by kernel_rfl) (fun hpre => ?_)
 have hp : (!treeOk t 40 || decide ((nm.length : Int) > 100)) = false → treeOk t 45 = true ∧ nm.length ≤ 1000 := fun h => by
  simp only [Bool.or_eq_false_iff, Bool.not_eq_false', decide_eq_false_iff_not] at h
  exact ⟨treeOk_le h.1 (by decide), by omega⟩
 repeat' ((conv => whnf);first|(with_reducible first|rfl|exact absTF|exact absFT)|exact True.intro|intro _|refine And.intro ?_ ?_|refine Fin.mk ?_|refine W1 rfl ?_ ?_|refine W2 rfl ?_ ?_|refine W3 rfl ?_ ?_|refine W4 ?_ ?_|refine W5 rfl ?_ ?_|refine W6 ?_ ?_|refine AppN.mk ?_|refine X1 (W1 rfl ?_ ?_)|refine X1 (W2 rfl ?_ ?_)|refine X2 (W7 rfl ?_ ?_)|refine X3 (W7 rfl ?_ ?_)|refine X4 (W7 rfl ?_ ?_)|refine X5 (W7 rfl ?_ ?_))
 all_goals (try (conv => whnf))
 all_goals (try first|exact obA|refine Ob.mk ?_)
 all_goals (first | exact hp ‹_› | simp)
instance wHasL (t : List NodeD) (nm : List UInt8) : Fn BB 5 [.agg [.rd nodeTy t], .str nm] True (.bool true) := by
 refine Fn.intro (N := 73) [0, 1, 2, 4, 5, 7, 8, 16, 21, 22, 23, 24, 49] [] Tryz.call5 Tryz.func5 rfl rfl (by kernel_rfl) (fun hpre => ?_)
 have hp : (!(treeOk t 40 && rightB t) || decide ((nm.length : Int) > 100)) = false → (treeOk t 45 = true ∧ nm.length ≤ 1000) ∧ rightB t = true := fun h => by
  simp only [Bool.or_eq_false_iff, Bool.not_eq_false', decide_eq_false_iff_not, Bool.and_eq_true] at h
  exact ⟨⟨treeOk_le h.1.1 (by decide), by omega⟩, h.1.2⟩
 repeat' ((conv => whnf);first|(with_reducible first|rfl|exact absTF|exact absFT)|exact True.intro|intro _|refine And.intro ?_ ?_|refine Fin.mk ?_|refine W1 rfl ?_ ?_|refine W2 rfl ?_ ?_|refine W3 rfl ?_ ?_|refine W4 ?_ ?_|refine W5 rfl ?_ ?_|refine W6 ?_ ?_|refine AppN.mk ?_|refine X1 (W1 rfl ?_ ?_)|refine X1 (W2 rfl ?_ ?_)|refine X2 (W7 rfl ?_ ?_)|refine X3 (W7 rfl ?_ ?_)|refine X4 (W7 rfl ?_ ?_)|refine X5 (W7 rfl ?_ ?_))
 all_goals (try (conv => whnf))
 all_goals (try first|exact obA|refine Ob.mk ?_)
 all_goals (try (exact (hp ‹_›).1))
 have hq := hp ‹_›
 refine LoopStop.mk (α := Nat) (fun k => [(23, .int .i64 k)]) (fun _ => []) 30 (fun k => k ≤ (namedT t nm).length) (fun k => (namedT t nm).length - k) 0 (Nat.zero_le _) ?_ (fun k hk => ?_)
 ·all_goals exact vcA
 ·by_cases hkl : k < (namedT t nm).length
  ·have hc := has_cond hq.2 hkl intTy.dflt
   have ha := named_at hkl intTy.dflt
   have hc1 : ∀ {p : Prop}, (decide ((namedT t nm).getD k intTy.dflt ≤ 0) || decide ((namedT t nm).getD k intTy.dflt ≥ (t.length : Int)) || (!(valT t ((namedT t nm).getD k intTy.dflt) idT == nm) && !(valT t ((namedT t nm).getD k intTy.dflt) nameT == nm))) = true → p := fun h => Bool.noConfusion (hc.symm.trans h)
   repeat' ((conv => whnf);first|(with_reducible first|rfl|exact absTF|exact absFT)|exact True.intro|intro _|refine And.intro ?_ ?_|refine Fin.mk ?_|refine W1 rfl ?_ ?_|refine W2 rfl ?_ ?_|refine W3 rfl ?_ ?_|refine W4 ?_ ?_|refine W5 rfl ?_ ?_|refine W6 ?_ ?_|refine AppN.mk ?_|refine X1 (W1 rfl ?_ ?_)|refine X1 (W2 rfl ?_ ?_)|refine X2 (W7 rfl ?_ ?_)|refine X3 (W7 rfl ?_ ?_)|refine X4 (W7 rfl ?_ ?_)|refine X5 (W7 rfl ?_ ?_))
   all_goals (try (conv => whnf))
   all_goals (try first|exact obA|refine Ob.mk ?_)
   all_goals (try simp only [Int.toNat_natCast] at *)
   all_goals (try (exact hq.1.1))
   all_goals (try exact hc1 (by assumption))
   all_goals (try (refine Rnd.mk ⟨k + 1, hkl, by omega, ?_⟩))
   repeat' ((conv => whnf);first|(with_reducible first|rfl|exact absTF|exact absFT)|exact True.intro|intro _|refine And.intro ?_ ?_|refine Fin.mk ?_|refine W1 rfl ?_ ?_|refine W2 rfl ?_ ?_|refine W3 rfl ?_ ?_|refine W4 ?_ ?_|refine W5 rfl ?_ ?_|refine W6 ?_ ?_|refine AppN.mk ?_|refine X1 (W1 rfl ?_ ?_)|refine X1 (W2 rfl ?_ ?_)|refine X2 (W7 rfl ?_ ?_)|refine X3 (W7 rfl ?_ ?_)|refine X4 (W7 rfl ?_ ?_)|refine X5 (W7 rfl ?_ ?_))
   all_goals (try (conv => whnf))
   all_goals (try first|exact obA|refine Ob.mk ?_)
   all_goals (first | rfl | exact first_fin)
  ·have e : k = (namedT t nm).length := by omega
   have hx : ∀ {p : Prop}, decide ((k : Int) < ((namedT t nm).length : Int)) = true → p := fun h => by have h := of_decide_eq_true h; omega
   have hfi := @first_in t nm
   repeat' ((conv => whnf);first|(with_reducible first|rfl|exact absTF|exact absFT)|exact True.intro|intro _|refine And.intro ?_ ?_|refine Fin.mk ?_|refine W1 rfl ?_ ?_|refine W2 rfl ?_ ?_|refine W3 rfl ?_ ?_|refine W4 ?_ ?_|refine W5 rfl ?_ ?_|refine W6 ?_ ?_|refine AppN.mk ?_|refine X1 (W1 rfl ?_ ?_)|refine X1 (W2 rfl ?_ ?_)|refine X2 (W7 rfl ?_ ?_)|refine X3 (W7 rfl ?_ ?_)|refine X4 (W7 rfl ?_ ?_)|refine X5 (W7 rfl ?_ ?_))
   all_goals (try (conv => whnf))
   all_goals (try first|exact obA|refine Ob.mk ?_)
   all_goals (try exact hx (by assumption))
   all_goals (try (refine Rnd.mk ?_; exact hx (by assumption)))
   all_goals (try (exact hq.1.1))
   all_goals (first | exact first_fin | trace_state)
end Go.Vc

namespace Go.Vc
open Go.Proofs
set_option maxRecDepth 100000
theorem base_ok (W : World) (hsh : W.ShapedOpen Tryz.prog) : BB.G fun b => W.heap[b]? := by
 obtain ⟨m, hm⟩ := Go.Proofs.cell_of_shapedOpen_int (g := 0) (zero := #[.int .i64 0]) (t := 3) hsh (of_decide_eq_true (by kernel_rfl)) (by kernel_rfl) rfl (by kernel_rfl) (by kernel_rfl) Tryz.underlying3
 have hm' : W.cell? ⟨0, 0, none⟩ = some (.int .i64 m) := hm
 unfold World.cell? at hm'
 show ∃ c T fr m, W.heap[0]? = some (.cells c T fr) ∧ c[0]? = some (.int .i64 m)
 cases h : W.heap[0]? with
 | none => simp [h] at hm'
 | some o =>
  cases o with
  | cells c T fr => exact ⟨c, T, fr, m, rfl, by simpa [h] using hm'⟩
  | _ => simp [h] at hm'
end Go.Vc
