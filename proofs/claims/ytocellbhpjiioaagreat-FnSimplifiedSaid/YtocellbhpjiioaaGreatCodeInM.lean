/-
  Contracts: whether a slice of integers holds a number (l00Has). Conditions: none beyond the lengths.
  Contracts: the code of a code and a curve (l15Code), the number of crossings (l15Many). Conditions: none beyond the lengths.
-/
import Derived.Test.YtocellbhpjiioaaGreatPolyOkM
import Derived.Test.YtocellbhpjiioaaGreatCodeOk
namespace Go.Proofs.YtocellbhpjiioaaGreat
open Go.RowKit
set_option linter.unusedVariables false

def hasB (xs : List Int) (n : Int) : Bool := xs.any (· == n)
theorem any_nextH {xs : List Int} {k : Nat} {x n : Int} (hx : xs[k]? = some x) (h : hasB (xs.take k) n = false) (hp : (x == n) = false) : hasB (xs.take (k + 1)) n = false := by
  unfold hasB at *
  rw [List.take_add_one, hx, List.any_append, h]
  simp [hp]
theorem any_hitH {xs : List Int} {k : Nat} {x n : Int} (hx : xs[k]? = some x) (hp : (x == n) = true) : hasB xs n = true := by
  unfold hasB
  rw [List.any_eq_true]
  exact ⟨x, List.mem_of_getElem? hx, hp⟩
end Go.Proofs.YtocellbhpjiioaaGreat

namespace Go.Proofs.YtocellbhpjiioaaGreat
open Go.RowKit
set_option linter.unusedVariables false

def curveC (code : List (List Int)) (j : Int) : Int := if validC code = true then (if inB j 0 ((code.length : Int) - 1) = true then 0 else 2) else 1
theorem l15Many_any (A : Option Addr) (c T : Nat) (code : List (List Int)) (w : World) (hc : RC w T A code) (hn : code.length + sumLen code ≤ 1048576) :
    Calls Tryz.prog 51 #[.slice A code.length c] w (fun e w' => e = .returned (.int .i64 ((sumLen code / 2 : Nat) : Int)) ∧ w = w') := by
  have hq : Int.tdiv (sumLen code : Int) 2 = ((sumLen code / 2 : Nat) : Int) := by rw [Int.tdiv_eq_ediv_of_nonneg (by omega)]; omega
  go_enter Tryz.func51, Tryz.ntmps51
  go_wp2_with fail
  refine (l14Size_any _ _ T code _ hc hn).mono ?_
  rintro e w1 ⟨rfl, rfl⟩
  go_wp2_with fail
  go_ret
  first
    | exact ⟨rfl, rfl⟩
    | (refine ⟨?_, rfl⟩; rw [hq])
end Go.Proofs.YtocellbhpjiioaaGreat
