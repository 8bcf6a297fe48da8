/-
  Contracts: whether a slice of integers holds a number (l00Has). Conditions: none beyond the lengths.
-/
import Derived.Test.YtenbjfkmfcbdiaaPolyOk
namespace Go.Proofs.Ytenbjfkmfcbdiaa
open Go.RowKit
set_option linter.unusedVariables false

def hasB (xs : List Int) (n : Int) : Bool := xs.any (· == n)
theorem any_nextH {xs : List Int} {k : Nat} {x n : Int} (hx : xs[k]? = some x) (h : hasB (xs.take k) n = false) (hp : (x == n) = false) : hasB (xs.take (k + 1)) n = false := by
  unfold hasB at *
  rw [List.take_add_one, hx, List.any_append, h]
  simp [hp]
theorem any_hitH {xs : List Int} {k : Nat} {x n : Int} (hx : xs[k]? = some x) (hp : (x == n) = true) : hasB xs n = true := by
  unfold hasB
  rw [List.any_eq_true]
  exact ⟨x, List.mem_of_getElem? hx, hp⟩
end Go.Proofs.Ytenbjfkmfcbdiaa
