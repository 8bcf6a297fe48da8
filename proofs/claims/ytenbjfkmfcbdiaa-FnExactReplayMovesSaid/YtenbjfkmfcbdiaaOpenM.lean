/-
  A slice of moves that came in as an argument, opened to the cells that a walk reads. Conditions: none.
-/
import Derived.Test.YtenbjfkmfcbdiaaOpen
import Derived.Test.YtenbjfkmfcbdiaaGen
import Derived.Deep.Slices
namespace Go.Proofs.Ytenbjfkmfcbdiaa
open Go.ChangeShapes Go.WideShapes Go.ChangeAt Go.RowKit Go.Deep Go.Joins
set_option linter.unusedVariables false

/-- What is known of a slice of moves that came in. -/
def ArgM (w : World) (A : Option Addr) (c : Nat) (xs : List (Int × Int × Int)) : Prop := xs.length ≤ c ∧ c ≤ 9223372036854775807 ∧ RG mvE w A xs ∧ ∀ p ∈ xs, I64 p.1 ∧ I64 p.2.1 ∧ I64 p.2.2
section
variable {H : Type} {enc : TypeId × Value → H} {P : Program} {w : World} {base : Nat} {held : Bool}
theorem open_moves {r : Reach} {b0 : Nat} {t e : TypeId} {f0 f1 f2 : Field} {v : Value} {d : DataW H} {p : List MemPlace} (ht : P.underlying t = some (.slice e)) (he : P.underlying e = some (.struct #[f0, f1, f2]))
    (ce : P.cellsOf e = 3) (o0 : f0.offset = 0) (o1 : f1.offset = 1) (o2 : f2.offset = 2) (c0 : P.cellsOf f0.type = 1) (c1 : P.cellsOf f1.type = 1) (c2 : P.cellsOf f2.type = 1) (t0 : P.underlying f0.type = some (.int .i64)) (t1 : P.underlying f1.type = some (.int .i64)) (t2 : P.underlying f2.type = some (.int .i64))
    (hv : Value.okWide P w r b0 t v) (h : DataW.Trod enc P w base (fun _ => true) held t v d p) : ∃ A c xs, v = .slice A (List.length xs) c ∧ ArgM w A c xs := by
  obtain ⟨A, len, cap, rfl⟩ := okWide_slice ht hv
  obtain ⟨m, hm⟩ := h
  have hm' : DataW.trod enc P w base (fun _ => true) held m t [.slice A len cap] = some (d, p) := by simpa [Value.cells] using hm
  rcases open_slice ht hm' with ⟨hcs, _⟩ | ⟨a, l, c, mm, n, D, Pl, hcs, _, hl, hmx, hmm, _, hx⟩
  · injection hcs with hcs
    injection hcs with h1 h2 h3
    subst h1 h2 h3
    exact ⟨none, 0, [], rfl, by simp, by omega, RG.nil _ _, by simp⟩
  · injection hcs with hcs
    injection hcs with h1 h2 h3
    subst h1 h2 h3
    simp only [if_true] at hmm
    subst hmm
    have each : ∀ i, i < len → ∃ q : Int × Int × Int, w.cell? (a.add (i * 3)) = some (.int .i64 q.1) ∧ w.cell? (a.add (i * 3 + 1)) = some (.int .i64 q.2.1) ∧ w.cell? (a.add (i * 3 + 2)) = some (.int .i64 q.2.2) ∧ I64 q.1 ∧ I64 q.2.1 ∧ I64 q.2.2 := fun i hi => by
      obtain ⟨cs', g1, g2⟩ := hx i (by omega)
      rw [ce] at g1
      obtain ⟨_, hlen, hcell⟩ := World.cells?_some g1
      obtain ⟨xs, k, hk, hxy, _, hxl, hf⟩ := DataW.trod_struct he g2
      match xs, hxl, cs', hlen with
      | [y0, y1, y2], _, [v0, v1, v2], _ =>
        have g0 := hf 0 f0 rfl
        have g1 := hf 1 f1 rfl
        have g2 := hf 2 f2 rfl
        simp [o0, o1, o2, c0, c1, c2] at g0 g1 g2
        have e0 := hcell 0 (by omega)
        have e1 := hcell 1 (by omega)
        have e2 := hcell 2 (by omega)
        rw [add_add] at e0 e1 e2
        obtain ⟨n0, q0, i0⟩ := trod_i64 t0 g0
        obtain ⟨n1, q1, i1⟩ := trod_i64 t1 g1
        obtain ⟨n2, q2, i2⟩ := trod_i64 t2 g2
        subst q0 q1 q2
        exact ⟨(n0, n1, n2), by simpa using e0, by simpa using e1, by simpa using e2, i0, i1, i2⟩
    obtain ⟨q, hq⟩ := choose_lt each
    refine ⟨some a, mm, (List.range len).map q, by simp, by simpa using hl, by simpa [maxLen] using hmx, ?_, ?_⟩
    · refine rd_of_cells fun j u hu => ?_
      have hlen : ((List.range len).map q).length = len := by simp
      have hj : j < len * 3 := by
        have := (List.getElem?_eq_some_iff.1 hu).1
        rwa [mvE.flen, hlen] at this
      have hf := flat_at mvC 3 mvC_len ((List.range len).map q) (j / 3) (j % 3) (by omega)
      have hu' : (((List.range len).map q).flatMap mvC)[j]? = some u := hu
      rw [show j / 3 * 3 + j % 3 = j by omega, hu'] at hf
      have hg : ((List.range len).map q)[j / 3]? = some (q (j / 3)) := by
        rw [List.getElem?_map, List.getElem?_range (by omega)]
        rfl
      rw [hg] at hf
      obtain ⟨g0, g1, g2, _⟩ := hq (j / 3) (by omega)
      rcases (show j % 3 = 0 ∨ j % 3 = 1 ∨ j % 3 = 2 by omega) with h | h | h
      · rw [h] at hf
        have hu2 : u = .int .i64 (q (j / 3)).1 := by simpa [mvC] using hf
        rw [hu2, ← g0]
        congr 2
        omega
      · rw [h] at hf
        have hu2 : u = .int .i64 (q (j / 3)).2.1 := by simpa [mvC] using hf
        rw [hu2, ← g1]
        congr 2
        omega
      · rw [h] at hf
        have hu2 : u = .int .i64 (q (j / 3)).2.2 := by simpa [mvC] using hf
        rw [hu2, ← g2]
        congr 2
        omega
    · intro z hz
      rw [List.mem_map] at hz
      obtain ⟨i, hi, rfl⟩ := hz
      obtain ⟨_, _, _, i0, i1, i2⟩ := hq i (by simpa using hi)
      exact ⟨i0, i1, i2⟩
end
end Go.Proofs.Ytenbjfkmfcbdiaa
