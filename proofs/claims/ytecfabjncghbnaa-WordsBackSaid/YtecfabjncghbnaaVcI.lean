/- A part of the proof: lemmas and walks that the last text of the claim joins; no condition. -/
import Derived.Test.YtecfabjncghbnaaVcF
import Derived.Below
set_option linter.unusedVariables false
set_option linter.unusedSimpArgs false
namespace Go.Vc
set_option autoImplicit false
open Go.RowKit
/-- A contract of the kit's that leaves what was there. -/
theorem Fn.liftB {B : Base} {f : FuncId} {args : List SV} {pre : Prop} {res : SV}
    (call : ∀ (vs : Array Value) (w : World), (callFunc f vs).run B.P w = .ok (.enter f vs) w)
    (h : pre → ∀ (r : Mem) (β : Bind) (w : World) (vs : List Value), B.G r → MemSat r β [] w → RelL r β args vs →
      ∃ v, Calls B.P f vs.toArray w (fun e w' => e = .returned v ∧ Below w.heap.size w w') ∧ Rel r β res v) : Fn B f args pre res := by
  refine ⟨call, fun hp r β w vs hG m hl => ?_⟩
  obtain ⟨v, hc, hr⟩ := h hp r β w vs hG m hl
  refine hc.mono fun e w' hh => ?_
  obtain ⟨rfl, hb⟩ := hh
  refine ⟨v, res, r, β, [], rfl, ⟨rfl, rfl⟩, hr, ⟨fun b o h => ?_, fun _ _ h => (by cases h), fun _ _ _ h => (by cases h), fun _ _ _ _ _ h => (by cases h)⟩, Mem.le_refl r,
    ⟨hb.os, hb.tape, hb.output, hb.size, fun b hb' h1 h2 => ⟨hb.block b hb', h1, h2⟩, fun _ _ h => (by cases h)⟩⟩
  have := m.vis b o h
  rw [hb.block b (lt_of_heap this)]; exact this
theorem rel_strs {r : Mem} {β : Bind} {l : List (List UInt8)} {v : Value} {w : World} (hv : ∀ b o, r b = some o → w.heap[b]? = some o) (h : Rel r β (.rd .str l) v) :
    (l = [] ∧ ∃ a c, v = .slice a 0 c) ∨ ∃ b off cap, v = .slice (some ⟨b, off, none⟩) l.length cap ∧ l.length ≤ cap ∧ l.length ≤ 9223372036854775807 ∧ b < w.heap.size ∧
      ∀ (j : Nat) (x : List UInt8), l[j]? = some x → w.cell? ⟨b, off + j, none⟩ = some (.string ⟨x.toArray⟩) := by
  cases h with
  | rd h =>
    generalize hm : l.map (Ty.enc .str) = rows at h
    cases h with
    | litsE => left; exact ⟨by simpa using hm, _, _, rfl⟩
    | @lits _ _ _ b off cap c T fr hb hn hcap hrow ho hc hr =>
      right
      have hlen : rows.length = l.length := by rw [← hm]; simp
      refine ⟨b, off, cap, by rw [hlen], by omega, by omega, lt_of_heap (hv b _ hb), fun j x hj => ?_⟩
      have hj' : rows[j]? = some [SV.str x] := by rw [← hm]; simp [hj, Ty.enc]
      have hlt : j < rows.length := by
        rcases Nat.lt_or_ge j rows.length with h | h
        · exact h
        · rw [List.getElem?_eq_none h] at hj'; cases hj'
      have hz : Ty.str.size = 1 := rfl
      rw [hz] at hc hr
      have hin : off + j < c.size := by omega
      have hcell : c[off + j * 1 + 0]? = some c[off + j] := by simp [hin]
      have := hr j _ 0 _ _ hj' rfl hcell
      generalize hcv : c[off + j] = cv at this hcell
      cases this
      simp only [World.cell?, hv b _ hb]
      simpa using hcell
end Go.Vc
