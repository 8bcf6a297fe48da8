/-
  The walk of the law FnExactCodeFaultName: both functions give the same name for every number. Conditions: none.
-/
import Derived.Test.YthbhppbcbpllcaaMem
import Derived.Test.YthbhppbcbpllcaaRows
namespace Go.Proofs.Ythbhppbcbpllcaa
open Go.RowKit
set_option linter.unusedVariables false

theorem low_in (n : Int) (w : World) (h : 0 ≤ n ∧ n ≤ 6) : Calls Try.prog 40 #[.int .i64 n, .int .i64 0, .int .i64 6] w fun e w' => e = .returned (.bool true) ∧ w = w' := by
  go_enter Try.func40, Try.ntmps40
  go_wp2
  go_ret
  exact ⟨rfl, rfl⟩
theorem low_out (n : Int) (w : World) (h : n < 0 ∨ 6 < n) : Calls Try.prog 40 #[.int .i64 n, .int .i64 0, .int .i64 6] w fun e w' => e = .returned (.bool false) ∧ w = w' := by
  rcases h with h | h
  · go_enter Try.func40, Try.ntmps40
    go_wp2
    go_ret
    exact ⟨rfl, rfl⟩
  · have h' : ¬ n ≤ 6 := by omega
    have h'' : (0 : Int) ≤ n := by omega
    go_enter Try.func40, Try.ntmps40
    go_wp2
    go_ret
    exact ⟨rfl, rfl⟩

set_option maxHeartbeats 1600000 in
theorem walk_CodeFaultName (a0 : Int) (w0 : I64 a0) (w : World) :
    Calls Try.prog 3 #[.int .i64 a0] w fun e w' => e = .returned (.bool true) ∧ Below w.heap.size w w' := by
  by_cases h : 0 ≤ a0 ∧ a0 ≤ 6
  · obtain rfl | rfl | rfl | rfl | rfl | rfl | rfl : a0 = 0 ∨ a0 = 1 ∨ a0 = 2 ∨ a0 = 3 ∨ a0 = 4 ∨ a0 = 5 ∨ a0 = 6 := by omega
    all_goals
      go_enter Try.func3, Try.ntmps3
      go_wp2_with (first | (go_at_call 40; refine (low_in _ _ (by omega)).mono ?_; rintro e w' ⟨rfl, rfl⟩) | go_in)
      go_ret
      exact ⟨rfl, by repeat (first | exact Below.refl _ _ | apply Below.drew | (refine Below.alloc ?_ (by simp) _))⟩
  · have h' : a0 < 0 ∨ 6 < a0 := by omega
    have e0 : (a0 == 0) = false := by simp; omega
    have e1 : (a0 == 1) = false := by simp; omega
    have e2 : (a0 == 2) = false := by simp; omega
    have e3 : (a0 == 3) = false := by simp; omega
    have e4 : (a0 == 4) = false := by simp; omega
    have e5 : (a0 == 5) = false := by simp; omega
    have e6 : (a0 == 6) = false := by simp; omega
    go_enter Try.func3, Try.ntmps3
    go_wp2_with (first | (go_at_call 40; refine (low_out _ _ h').mono ?_; rintro e w' ⟨rfl, rfl⟩) | go_in)
    go_ret
    exact ⟨rfl, by repeat (first | exact Below.refl _ _ | apply Below.drew | (refine Below.alloc ?_ (by simp) _))⟩

end Go.Proofs.Ythbhppbcbpllcaa
