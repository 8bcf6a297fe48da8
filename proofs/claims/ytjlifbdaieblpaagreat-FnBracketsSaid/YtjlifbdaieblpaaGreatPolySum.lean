/-
  Contracts of the sums of a list and of a polynomial's coefficients. Conditions: the lengths are far below the machine's.
-/
import Derived.Test.YtjlifbdaieblpaaGreatPolyOk
namespace Go.Proofs.YtjlifbdaieblpaaGreat
open Go.RowKit
set_option linter.unusedVariables false

/-- The sum as the machine makes it. -/
def sumW (xs : List Int) : Int := xs.foldl (fun s x => wrap64 (s + x)) 0
theorem sumW_next {xs : List Int} {k : Nat} {x : Int} (hx : xs[k]? = some x) : sumW (xs.take (k + 1)) = wrap64 (sumW (xs.take k) + x) := by
  unfold sumW
  rw [List.take_add_one, hx, List.foldl_append]
  rfl

set_option maxHeartbeats 400000 in
theorem l17Sum_any (A : Option Addr) (c : Nat) (xs : List Int) (w : World) (h : RI w A xs) (hn : xs.length ≤ 1048576) :
    Calls Tryz.prog 30 #[.slice A xs.length c] w fun e w' => e = .returned (.int .i64 (sumW xs)) ∧ w = w' := by
  go_enter Tryz.func30, Tryz.ntmps30
  go_wp2
  go_loop [3, 4] (fun s i => ∃ k : Nat, k ≤ xs.length ∧ i = .int .i64 k ∧ s = .int .i64 (sumW (xs.take k))) (fun _ i => xs.length - (intOf i).toNat)
  case atStart => exact ⟨0, Nat.zero_le _, rfl, rfl⟩
  case round =>
    obtain ⟨k, hk, rfl, rfl⟩ := hrel
    by_cases hlt : k < xs.length
    · obtain ⟨b, off, x, rfl, hb, hx, hc⟩ := h.at_ hlt
      have HS := hide (sumW_next hx)
      go_wp2
      go_round
      case rel => exact ⟨k + 1, by omega, by go_num, by rw [HS.out]⟩
      case measure => simp [intOf]; omega
    · go_wp2
      go_ret
      exact ⟨ret_int (by rw [List.take_of_length_le (by omega)]), rfl⟩
set_option maxHeartbeats 400000 in
theorem sumOf_any (A : Option Addr) (c : Nat) (xs : List Int) (w : World) (h : RI w A xs) (hn : xs.length ≤ 1048576) :
    Calls Tryz.prog 26 #[.slice A xs.length c] w fun e w' => e = .returned (.int .i64 (sumW xs)) ∧ w = w' := by
  go_enter Tryz.func26, Tryz.ntmps26
  go_wp2
  go_loop [3, 8] (fun s i => ∃ k : Nat, k ≤ xs.length ∧ i = .int .i64 k ∧ s = .int .i64 (sumW (xs.take k))) (fun _ i => xs.length - (intOf i).toNat)
  case atStart => exact ⟨0, Nat.zero_le _, rfl, rfl⟩
  case round =>
    obtain ⟨k, hk, rfl, rfl⟩ := hrel
    by_cases hlt : k < xs.length
    · obtain ⟨b, off, x, rfl, hb, hx, hc⟩ := h.at_ hlt
      have HS := hide (sumW_next hx)
      go_wp2
      go_round
      case rel => exact ⟨k + 1, by omega, by go_num, by rw [HS.out]⟩
      case measure => simp [intOf]; omega
    · go_wp2
      go_ret
      exact ⟨ret_int (by rw [List.take_of_length_le (by omega)]), rfl⟩

/-- What PolySum hands back. -/
def sumP (low : Int) (xs : List Int) : Int × Int := if vldP low xs then (sumW xs, 0) else (0, 1)

set_option maxHeartbeats 400000 in
theorem implPolySum_any (low : Int) (A : Option Addr) (c : Nat) (xs : List Int) (w : World) (h : RI w A xs) (hn : xs.length ≤ 1048576) :
    Calls Tryz.prog 14 #[.agg #[.int .i64 low, .slice A xs.length c]] w (RetV w (.tuple #[.int .i64 (sumP low xs).1, .int .i64 (sumP low xs).2])) := by
  unfold sumP
  cases hv : vldP low xs
  · go_enter Tryz.func14, Tryz.ntmps14
    go_wp2_with (go_at_call 39; refine (implValidPoly_any _ _ _ xs _ (h.alloc _) hn).mono ?_; rintro e w1 ⟨rfl, hb1⟩; obtain ⟨pa, pb⟩ := ((Bx.new w 29 #[.int .i64 low, .slice A xs.length c]).below hb1).two)
    go_ret2
    exact ⟨rfl, ((Below.refl _ _).alloc (Nat.le_refl _) _).trans (hb1.mono (by simp))⟩
  · go_enter Tryz.func14, Tryz.ntmps14
    go_wp2_with (first | (go_at_call 39; refine (implValidPoly_any _ _ _ xs _ (h.alloc _) hn).mono ?_; rintro e w1 ⟨rfl, hb1⟩; obtain ⟨pa, pb⟩ := ((Bx.new w 29 #[.int .i64 low, .slice A xs.length c]).below hb1).two) | (go_at_call 26; refine (sumOf_any _ _ xs _ ((h.alloc _).below hb1) hn).mono ?_; rintro e w' ⟨rfl, rfl⟩))
    go_ret2
    exact ⟨rfl, ((Below.refl _ _).alloc (Nat.le_refl _) _).trans (hb1.mono (by simp))⟩
end Go.Proofs.YtjlifbdaieblpaaGreat
