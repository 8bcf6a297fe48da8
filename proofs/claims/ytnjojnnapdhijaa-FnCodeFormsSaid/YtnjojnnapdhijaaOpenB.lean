/-
  A law's argument of bytes, opened to the cells that a walk reads. Conditions: none.
-/
import Derived.Test.YtnjojnnapdhijaaOpen
namespace Go.Proofs.Ytnjojnnapdhijaa
open Go.ChangeShapes Go.WideShapes Go.ChangeAt Go.RowKit Go.Deep Go.Joins
set_option linter.unusedVariables false

/-- The slice that begins at A reads as these bytes. -/
def RB (w : World) (A : Option Addr) (xs : List Int) : Prop := Rd w A (xs.map (Value.int .u8))
/-- What is known of a slice of bytes that came in. -/
def ArgB (w : World) (A : Option Addr) (c : Nat) (xs : List Int) : Prop := xs.length ≤ c ∧ c ≤ 9223372036854775807 ∧ RB w A xs ∧ ∀ x ∈ xs, 0 ≤ x ∧ x ≤ 255
theorem u8_of {n : Int} (h : (Lit.int .u8 n).wf = true) : 0 ≤ n ∧ n ≤ 255 := by
  simpa [Lit.wf, IntKind.min, IntKind.max, IntKind.signed, IntKind.bits] using h
theorem RB.at_ {w : World} {A : Option Addr} {xs : List Int} (h : RB w A xs) {k : Nat} (hk : k < xs.length) :
    ∃ b off x, A = some ⟨b, off, none⟩ ∧ b < w.heap.size ∧ xs[k]? = some x ∧ w.cell? ⟨b, off + k, none⟩ = some (.int .u8 x) := by
  obtain ⟨b, off, u, e, hb, hu, hc⟩ := Rd.at_ h (k := k) (by simpa using hk)
  rw [List.getElem?_map] at hu
  cases hx : xs[k]? with
  | none => rw [hx] at hu; simp at hu
  | some x =>
    rw [hx] at hu
    simp at hu
    exact ⟨b, off, x, e, hb, rfl, by rw [hc, hu]⟩
theorem RB.below {w w' : World} {A : Option Addr} {xs : List Int} (h : RB w A xs) (hb : Below w.heap.size w w') : RB w' A xs := Rd.below h hb
section
variable {H : Type} {enc : TypeId × Value → H} {P : Program} {w : World} {base : Nat} {spare : Nat → Bool} {held : Bool} {fuel : Nat}
theorem trod_bytes {t e : TypeId} {v : Value} {x : DataW H × List MemPlace} (ht : P.underlying t = some (.slice e)) (he : P.underlying e = some (.int .u8)) (hC : P.cellsOf e = 1)
    (h : DataW.trod enc P w base spare held fuel t [v] = some x) : ∃ A c xs, v = .slice A (List.length xs) c ∧ ArgB w A c xs := by
  rcases open_ints ht he hC h with ⟨hcs, _⟩ | ⟨a, l, c, zs, hcs, _, hl, hm, hz, _, hcell, hwz⟩
  · injection hcs with hv
    exact ⟨none, 0, [], hv, by simp, by omega, Rd.nil _ _, by simp⟩
  · injection hcs with hv
    have hlz : l ≤ zs.length := by rw [hz]; split <;> omega
    have hlen : (zs.take l).length = l := by rw [List.length_take]; omega
    refine ⟨some a, c, zs.take l, by rw [hlen]; exact hv, by omega, by simpa [maxLen] using hm, ?_, fun x hx => u8_of (hwz x (List.mem_of_mem_take hx))⟩
    refine rd_of_cells fun j u hu => ?_
    rw [List.getElem?_map] at hu
    cases hx : (zs.take l)[j]? with
    | none => rw [hx] at hu; simp at hu
    | some y =>
      rw [hx] at hu
      simp at hu
      subst hu
      have hj : j < l := by
        have := (List.getElem?_eq_some_iff.1 hx).1
        omega
      rw [List.getElem?_take, if_pos hj] at hx
      rw [hcell j (by omega), List.getD_eq_getElem?_getD, hx]
      rfl
theorem open_bytes {r : Reach} {b0 : Nat} {t e : TypeId} {v : Value} {d : DataW H} {p : List MemPlace} (ht : P.underlying t = some (.slice e)) (he : P.underlying e = some (.int .u8)) (hC : P.cellsOf e = 1)
    (hv : Value.okWide P w r b0 t v) (h : DataW.Trod enc P w base (fun _ => true) held t v d p) : ∃ A c xs, v = .slice A (List.length xs) c ∧ ArgB w A c xs := by
  obtain ⟨A, len, cap, rfl⟩ := okWide_slice ht hv
  obtain ⟨m, hm⟩ := h
  exact trod_bytes ht he hC (by simpa [Value.cells] using hm)
end
end Go.Proofs.Ytnjojnnapdhijaa
