/-
  Contracts of the sums of a list and of a polynomial's coefficients. Conditions: the lengths are far below the machine's.
-/
import Derived.Test.YtmjeafklafjakaaPolyOk
namespace Go.Proofs.Ytmjeafklafjakaa
open Go.RowKit
set_option linter.unusedVariables false

/-- The sum as the machine makes it. -/
def sumW (xs : List Int) : Int := xs.foldl (fun s x => wrap64 (s + x)) 0
theorem sumW_next {xs : List Int} {k : Nat} {x : Int} (hx : xs[k]? = some x) : sumW (xs.take (k + 1)) = wrap64 (sumW (xs.take k) + x) := by
  unfold sumW
  rw [List.take_add_one, hx, List.foldl_append]
  rfl

set_option maxHeartbeats 400000 in
theorem sumOf_any (A : Option Addr) (c : Nat) (xs : List Int) (w : World) (h : RI w A xs) (hn : xs.length ≤ 1048576) :
    Calls Try.prog 28 #[.slice A xs.length c] w fun e w' => e = .returned (.int .i64 (sumW xs)) ∧ w = w' := by
  go_enter Try.func28, Try.ntmps28
  go_wp2
  go_loop [3, 8] (fun s i => ∃ k : Nat, k ≤ xs.length ∧ i = .int .i64 k ∧ s = .int .i64 (sumW (xs.take k))) (fun _ i => xs.length - (intOf i).toNat)
  case atStart => exact ⟨0, Nat.zero_le _, rfl, rfl⟩
  case round =>
    obtain ⟨k, hk, rfl, rfl⟩ := hrel
    by_cases hlt : k < xs.length
    · obtain ⟨b, off, x, rfl, hb, hx, hc⟩ := h.at_ hlt
      have HS := hide (sumW_next hx)
      go_wp2
      go_round
      case rel => exact ⟨k + 1, by omega, by go_num, by rw [HS.out]⟩
      case measure => simp [intOf]; omega
    · go_wp2
      go_ret
      exact ⟨ret_int (by rw [List.take_of_length_le (by omega)]), rfl⟩

/-- What PolySum hands back. -/
def sumP (low : Int) (xs : List Int) : Int × Int := if vldP low xs then (sumW xs, 0) else (0, 1)

end Go.Proofs.Ytmjeafklafjakaa
