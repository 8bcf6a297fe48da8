/-
  What a law's argument is, opened to the cells that a walk reads: ints, slices of ints. Conditions: none.
-/
import Derived.Test.YtnjojnnapdhijaaMem
import Derived.Test.YtnjojnnapdhijaaRows
import Derived.ProofKit
import Derived.OpenShut
import Derived.ShutString
import Derived.ChangeOld
import Derived.Lib.SmallJoins
import Derived.Deep.Slices
import Derived.Deep.Fields
namespace Go.Proofs.Ytnjojnnapdhijaa
open Go.ChangeShapes Go.WideShapes Go.ChangeAt Go.RowKit Go.Deep Go.Joins
set_option linter.unusedVariables false

/-- What is known of a slice of ints that came in. -/
def ArgI (w : World) (A : Option Addr) (c : Nat) (xs : List Int) : Prop := xs.length ≤ c ∧ c ≤ 9223372036854775807 ∧ RI w A xs ∧ ∀ x ∈ xs, I64 x

theorem i64_of {n : Int} (h : (Lit.int .i64 n).wf = true) : I64 n := by
  unfold I64
  simpa [Lit.wf, IntKind.min, IntKind.max, IntKind.signed, IntKind.bits] using h

section
variable {H : Type} {enc : TypeId × Value → H} {P : Program} {w : World} {base : Nat} {spare : Nat → Bool} {held : Bool} {fuel : Nat}
theorem trod_i64 {t : TypeId} {v : Value} {x : DataW H × List MemPlace} (ht : P.underlying t = some (.int .i64)) (h : DataW.trod enc P w base spare held fuel t [v] = some x) : ∃ n, v = .int .i64 n ∧ I64 n := by
  obtain ⟨n, hcs, _, hw⟩ := DataW.trod_int ht h
  injection hcs with hv
  exact ⟨n, hv, i64_of hw⟩
theorem rd_of_cells {A : Addr} {cs : List Value} (h : ∀ j u, cs[j]? = some u → w.cell? (A.add j) = some u) : Rd w (some A) cs := fun hn => by
  obtain ⟨b, off, spot⟩ := A
  have hu : cs[0]? = some cs[0] := List.getElem?_eq_getElem hn
  have h0 := h 0 _ hu
  have hspot : spot = none := by simpa [Addr.add] using World.cell?_spot h0
  subst hspot
  refine ⟨b, off, rfl, fun j u hj => ?_⟩
  have := h j u hj
  rwa [Addr.add_lit] at this
theorem trod_ints {t e : TypeId} {v : Value} {x : DataW H × List MemPlace} (ht : P.underlying t = some (.slice e)) (he : P.underlying e = some (.int .i64)) (hC : P.cellsOf e = 1)
    (h : DataW.trod enc P w base spare held fuel t [v] = some x) : ∃ A c xs, v = .slice A (List.length xs) c ∧ ArgI w A c xs := by
  rcases open_ints ht he hC h with ⟨hcs, _⟩ | ⟨a, l, c, zs, hcs, _, hl, hm, hz, _, hcell, hwz⟩
  · injection hcs with hv
    exact ⟨none, 0, [], hv, by simp, by omega, RI.nil _ _, by simp⟩
  · injection hcs with hv
    have hlz : l ≤ zs.length := by rw [hz]; split <;> omega
    have hlen : (zs.take l).length = l := by rw [List.length_take]; omega
    refine ⟨some a, c, zs.take l, by rw [hlen]; exact hv, by omega, by simpa [maxLen] using hm, ?_, fun x hx => i64_of (hwz x (List.mem_of_mem_take hx))⟩
    refine rd_of_cells fun j u hu => ?_
    rw [List.getElem?_map] at hu
    cases hx : (zs.take l)[j]? with
    | none => rw [hx] at hu; simp at hu
    | some y =>
      rw [hx] at hu
      simp at hu
      subst hu
      have hj : j < l := by
        have := (List.getElem?_eq_some_iff.1 hx).1
        omega
      rw [List.getElem?_take, if_pos hj] at hx
      rw [hcell j (by omega), List.getD_eq_getElem?_getD, hx]
      rfl
end
theorem laidOut : laidOutB Try.prog = true := by kernel_rfl
theorem own : ownKnob Try.prog.godebug = none := by kernel_rfl
end Go.Proofs.Ytnjojnnapdhijaa
