/-
  A slice of points that came in as an argument, opened to the cells that a walk reads. Conditions: none.
-/
import Derived.Test.YtbleipaekdhdmaaOpen
import Derived.Test.YtbleipaekdhdmaaPtsMem
import Derived.Deep.SlicePairs
namespace Go.Proofs.Ytbleipaekdhdmaa
open Go.ChangeShapes Go.WideShapes Go.ChangeAt Go.RowKit Go.Deep Go.Joins
set_option linter.unusedVariables false

/-- What is known of a slice of points that came in. -/
def ArgP (w : World) (A : Option Addr) (c : Nat) (xs : List (Int × Int)) : Prop := xs.length ≤ c ∧ c ≤ 9223372036854775807 ∧ RP w A xs ∧ ∀ p ∈ xs, I64 p.1 ∧ I64 p.2

def intVal : Value → Int
  | .int _ n => n
  | _ => 0
section
variable {H : Type} {enc : TypeId × Value → H} {P : Program} {w : World} {base : Nat} {held : Bool}
theorem open_points {r : Reach} {b0 : Nat} {t e : TypeId} {f0 f1 : Field} {v : Value} {d : DataW H} {p : List MemPlace} (ht : P.underlying t = some (.slice e)) (he : P.underlying e = some (.struct #[f0, f1]))
    (ce : P.cellsOf e = 2) (o0 : f0.offset = 0) (o1 : f1.offset = 1) (c0 : P.cellsOf f0.type = 1) (c1 : P.cellsOf f1.type = 1) (t0 : P.underlying f0.type = some (.int .i64)) (t1 : P.underlying f1.type = some (.int .i64))
    (hv : Value.okWide P w r b0 t v) (h : DataW.Trod enc P w base (fun _ => true) held t v d p) : ∃ A c xs, v = .slice A (List.length xs) c ∧ ArgP w A c xs := by
  obtain ⟨A, len, cap, rfl⟩ := okWide_slice ht hv
  obtain ⟨m, hm⟩ := h
  have hm' : DataW.trod enc P w base (fun _ => true) held m t [.slice A len cap] = some (d, p) := by simpa [Value.cells] using hm
  rcases open_slice_pairs ht he ce o0 o1 c0 c1 hm' with ⟨hcs, _⟩ | ⟨a, l, c, mm, n, V0, V1, D0, D1, P0, P1, hcs, _, hl, hmx, hmm, _, hx⟩
  · injection hcs with hcs
    injection hcs with h1 h2 h3
    subst h1 h2 h3
    exact ⟨none, 0, [], rfl, by simp, by omega, RP.nil _ _, by simp⟩
  · injection hcs with hcs
    injection hcs with h1 h2 h3
    subst h1 h2 h3
    simp only [if_true] at hmm
    subst hmm
    have each : ∀ i, i < len → V0 i = .int .i64 (intVal (V0 i)) ∧ V1 i = .int .i64 (intVal (V1 i)) ∧ I64 (intVal (V0 i)) ∧ I64 (intVal (V1 i)) := fun i hi => by
      obtain ⟨_, _, g0, g1⟩ := hx i (by omega)
      obtain ⟨n0, e0, i0⟩ := trod_i64 t0 g0
      obtain ⟨n1, e1, i1⟩ := trod_i64 t1 g1
      rw [e0, e1]
      exact ⟨rfl, rfl, i0, i1⟩
    refine ⟨some a, mm, (List.range len).map fun i => (intVal (V0 i), intVal (V1 i)), by simp, by simpa using hl, by simpa [maxLen] using hmx, ?_, ?_⟩
    · refine rd_of_cells fun j u hu => ?_
      have hlen : ((List.range len).map fun i => (intVal (V0 i), intVal (V1 i))).length = len := by simp
      have hj : j < len * 2 := by
        have := (List.getElem?_eq_some_iff.1 hu).1
        rwa [flat_len ptC 2 ptC_len, hlen] at this
      have hf := flat_at ptC 2 ptC_len ((List.range len).map fun i => (intVal (V0 i), intVal (V1 i))) (j / 2) (j % 2) (by omega)
      rw [show j / 2 * 2 + j % 2 = j by omega, hu] at hf
      have hg : ((List.range len).map fun i => (intVal (V0 i), intVal (V1 i)))[j / 2]? = some (intVal (V0 (j / 2)), intVal (V1 (j / 2))) := by
        rw [List.getElem?_map, List.getElem?_range (by omega)]
        rfl
      rw [hg] at hf
      obtain ⟨g0, g1, _, _⟩ := hx (j / 2) (by omega)
      obtain ⟨e0, e1, _, _⟩ := each (j / 2) (by omega)
      rcases (show j % 2 = 0 ∨ j % 2 = 1 by omega) with h | h
      · rw [h] at hf
        have hu' : u = .int .i64 (intVal (V0 (j / 2))) := by simpa [ptC] using hf
        rw [hu', ← e0, ← g0]
        congr 2
        omega
      · rw [h] at hf
        have hu' : u = .int .i64 (intVal (V1 (j / 2))) := by simpa [ptC] using hf
        rw [hu', ← e1, ← g1]
        congr 2
        omega
    · intro q hq
      rw [List.mem_map] at hq
      obtain ⟨i, hi, rfl⟩ := hq
      obtain ⟨_, _, i0, i1⟩ := each i (by simpa using hi)
      exact ⟨i0, i1⟩
end
end Go.Proofs.Ytbleipaekdhdmaa
