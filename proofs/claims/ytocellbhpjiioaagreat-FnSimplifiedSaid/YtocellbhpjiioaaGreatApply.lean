/-
  Contracts: CanMove, ApplyMove, of the program and of the reference. Conditions: none beyond the lengths.
-/
import Derived.Test.YtocellbhpjiioaaGreatMade
import Derived.Test.YtocellbhpjiioaaGreatRetM
namespace Go.Proofs.YtocellbhpjiioaaGreat
open Go.RowKit
set_option linter.unusedVariables false

def applyR (code : List (List Int)) (m : Int × Int × Int) : List (List Int) × Int := if validC code = true then (if formB m = true then (if canB code m = true then (doM code m, 0) else ([], 6)) else ([], 2)) else ([], 1)
theorem withoutC_len (g : Nat → Bool) (code : List (List Int)) : (withoutC g code).length = code.length ∧ sumLen (withoutC g code) ≤ sumLen code := ⟨renC_length _ _, renC_sum _ _⟩
theorem applyR_len (code : List (List Int)) (m : Int × Int × Int) (hn : code.length + sumLen code ≤ 1048576) : (applyR code m).1.length + sumLen (applyR code m).1 ≤ 1048576 := by
  unfold applyR
  split
  · split
    · split
      · have := withoutC_len (moveG m) code
        unfold doM
        dsimp only
        omega
      · simp [sumLen]
    · simp [sumLen]
  · simp [sumLen]

end Go.Proofs.YtocellbhpjiioaaGreat
