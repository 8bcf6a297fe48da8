/-
  A slice of slices of ints that came in as an argument, opened to the cells that a walk reads. Conditions: none.
-/
import Derived.Test.YtnjojnnapdhijaaOpen
import Derived.Test.YtnjojnnapdhijaaCode1
import Derived.Deep.Slices
namespace Go.Proofs.Ytnjojnnapdhijaa
open Go.ChangeShapes Go.WideShapes Go.ChangeAt Go.RowKit Go.Deep Go.Joins
set_option linter.unusedVariables false

theorem flat_hds (hs : List Hd) : hs.flatMap hdE.cells = hs.map fun h => Value.slice h.A h.n h.c := by
  induction hs with
  | nil => rfl
  | cons x t ih => rw [List.flatMap_cons, ih]; rfl
section
variable {H : Type} {enc : TypeId × Value → H} {P : Program} {w : World} {base : Nat} {held : Bool}
theorem open_code {r : Reach} {b0 : Nat} {t e i : TypeId} {v : Value} {d : DataW H} {p : List MemPlace} (ht : P.underlying t = some (.slice e)) (he : P.underlying e = some (.slice i)) (hi : P.underlying i = some (.int .i64))
    (ce : P.cellsOf e = 1) (ci : P.cellsOf i = 1)
    (hv : Value.okWide P w r b0 t v) (h : DataW.Trod enc P w base (fun _ => true) held t v d p) : ∃ A c code, v = .slice A (List.length code) c ∧ ArgC w A c code := by
  obtain ⟨A, len, cap, rfl⟩ := okWide_slice ht hv
  obtain ⟨m, hm⟩ := h
  have hm' : DataW.trod enc P w base (fun _ => true) held m t [.slice A len cap] = some (d, p) := by simpa [Value.cells] using hm
  rcases open_slice1 ht ce hm' with ⟨hcs, _⟩ | ⟨a, l, c, mm, n, V, D, Pl, hcs, _, hl, hmx, hmm, _, hx⟩
  · injection hcs with hcs
    injection hcs with h1 h2 h3
    subst h1 h2 h3
    exact ⟨none, 0, [], rfl, by simp, by omega, ⟨[], RG.nil _ _, fun g hg => by simp [blk] at hg, rfl, fun i h xs e1 e2 => by simp at e2⟩, by simp⟩
  · injection hcs with hcs
    injection hcs with h1 h2 h3
    subst h1 h2 h3
    simp only [if_true] at hmm
    subst hmm
    have each : ∀ j, j < len → ∃ q : Option Addr × Nat × List Int, V j = .slice q.1 q.2.2.length q.2.1 ∧ ArgI w q.1 q.2.1 q.2.2 := fun j hj => by
      obtain ⟨A', c', xs, e1, e2⟩ := trod_ints he hi ci (hx j (by omega)).2
      exact ⟨(A', c', xs), e1, e2⟩
    obtain ⟨f, hf⟩ := choose_lt each
    refine ⟨some a, mm, (List.range len).map fun j => (f j).2.2, by simp, by simpa using hl, by simpa [maxLen] using hmx, ⟨(List.range len).map fun j => ⟨(f j).1, (f j).2.2.length, (f j).2.1⟩, ?_, ?_, by simp, ?_⟩, ?_⟩
    · refine rd_of_cells fun j u hu => ?_
      rw [flat_hds, List.getElem?_map, List.getElem?_map] at hu
      have hj : j < len := by
        rcases Nat.lt_or_ge j len with h | h
        · exact h
        · rw [List.getElem?_eq_none (by simpa using h)] at hu
          simp at hu
      rw [List.getElem?_range hj] at hu
      simp at hu
      subst hu
      rw [(hx j (by omega)).1, (hf j hj).1]
    · intro g hg hn
      have h0 : 0 < len := by simpa using hn
      have hc := (hx 0 (by omega)).1
      have := World.block_lt_of_cell? w _ hc
      rw [block_of_add] at this
      have e := blk_inj (b := a.block) (o := a.off) (s := a.spot) (k := g) hg
      omega
    · intro j h xs e1 e2
      rw [List.getElem?_map] at e1 e2
      have hj : j < len := by
        rcases Nat.lt_or_ge j len with h | h
        · exact h
        · rw [List.getElem?_eq_none (by simpa using h)] at e1
          simp at e1
      rw [List.getElem?_range hj] at e1 e2
      simp at e1 e2
      subst e1 e2
      obtain ⟨q1, q2, q3, q4⟩ := (hf j hj).2
      exact ⟨rfl, q1, q2, RIT.of q3⟩
    · intro xs hxs
      rw [List.mem_map] at hxs
      obtain ⟨j, hj, rfl⟩ := hxs
      exact (hf j (by simpa using hj)).2.2.2.2
end
end Go.Proofs.Ytnjojnnapdhijaa
