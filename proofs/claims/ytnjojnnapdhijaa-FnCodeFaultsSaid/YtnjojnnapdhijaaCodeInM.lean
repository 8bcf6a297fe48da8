/-
  Contracts: whether a slice of integers holds a number (l00Has). Conditions: none beyond the lengths.
  Contracts: the code of a code and a curve (l15Code), the number of crossings (l15Many). Conditions: none beyond the lengths.
-/
import Derived.Test.YtnjojnnapdhijaaPolyOk
import Derived.Test.YtnjojnnapdhijaaCodeOk
namespace Go.Proofs.Ytnjojnnapdhijaa
open Go.RowKit
set_option linter.unusedVariables false

def hasB (xs : List Int) (n : Int) : Bool := xs.any (· == n)
theorem any_nextH {xs : List Int} {k : Nat} {x n : Int} (hx : xs[k]? = some x) (h : hasB (xs.take k) n = false) (hp : (x == n) = false) : hasB (xs.take (k + 1)) n = false := by
  unfold hasB at *
  rw [List.take_add_one, hx, List.any_append, h]
  simp [hp]
theorem any_hitH {xs : List Int} {k : Nat} {x n : Int} (hx : xs[k]? = some x) (hp : (x == n) = true) : hasB xs n = true := by
  unfold hasB
  rw [List.any_eq_true]
  exact ⟨x, List.mem_of_getElem? hx, hp⟩
set_option maxHeartbeats 1000000 in
theorem l00Has_any (A : Option Addr) (c : Nat) (xs : List Int) (n : Int) (w : World) (h : RI w A xs) (hn : xs.length ≤ 1048576) :
    Calls Try.prog 92 #[.slice A xs.length c, .int .i64 n] w (fun e w' => e = .returned (.bool (hasB xs n)) ∧ w = w') := by
  go_enter Try.func92, Try.ntmps92
  go_wp2
  go_loop [5] (fun i => ∃ k : Nat, k ≤ xs.length ∧ i = .int .i64 k ∧ Hid (hasB (xs.take k) n = false)) (fun i => xs.length - (intOf i).toNat)
  case atStart => exact ⟨0, Nat.zero_le _, rfl, hide rfl⟩
  case round =>
    obtain ⟨k, hk, rfl, hall⟩ := hrel
    by_cases hlt : k < xs.length
    · obtain ⟨b, off, x, rfl, hb, hx, hc⟩ := h.at_ hlt
      cases hp : (x == n)
      · have HA := hide (any_nextH hx hall.out hp)
        go_wp2_with fail
        go_round
        case rel => exact ⟨k + 1, by omega, by go_num, HA⟩
        case measure => simp [intOf]; omega
      · have HV := hide (any_hitH hx hp)
        go_wp2_with fail
        go_ret
        rw [HV.out]
        exact ⟨rfl, rfl⟩
    · have hall' := hall.out
      rw [List.take_of_length_le (by omega)] at hall'
      have HV := hide hall'
      clear hall hall'
      go_wp2_with fail
      go_ret
      rw [HV.out]
      exact ⟨rfl, rfl⟩
end Go.Proofs.Ytnjojnnapdhijaa

namespace Go.Proofs.Ytnjojnnapdhijaa
open Go.RowKit
set_option linter.unusedVariables false

def curveC (code : List (List Int)) (j : Int) : Int := if validC code = true then (if inB j 0 ((code.length : Int) - 1) = true then 0 else 2) else 1
set_option maxHeartbeats 1000000 in
theorem l15Code_any (A : Option Addr) (c T : Nat) (code : List (List Int)) (j : Int) (w : World) (hc : RC w T A code) (hn : code.length + sumLen code ≤ 1048576) :
    Calls Try.prog 63 #[.slice A code.length c, .int .i64 j] w (RetV w (.int .i64 (curveC code j))) := by
  cases hv : validC code
  · have HV := hide (show curveC code j = 1 by unfold curveC; rw [if_neg (by rw [hv]; simp)])
    go_enter Try.func63, Try.ntmps63
    go_wp2_with fail
    refine (l14Ok_any _ _ T code _ hc hn).mono ?_
    rw [hv]
    rintro e w1 ⟨rfl, hb⟩
    go_wp2_with fail
    go_ret
    rw [HV.out]
    exact ⟨rfl, hb⟩
  · cases hi : inB j 0 ((code.length : Int) - 1)
    · have HV := hide (show curveC code j = 2 by unfold curveC; rw [if_pos hv, if_neg (by rw [hi]; simp)])
      have wl : IntKind.i64.wrap ((code.length : Int) - 1) = (code.length : Int) - 1 := by rw [IntKind.wrap_i64]; omega
      go_enter Try.func63, Try.ntmps63
      go_wp2_with fail
      refine (l14Ok_any _ _ T code _ hc hn).mono ?_
      rw [hv]
      rintro e w1 ⟨rfl, hb⟩
      go_wp2_with (go_at_call 65; refine (l00In_any _ _ _ _).mono ?_; rintro e w' ⟨rfl, rfl⟩)
      go_ret
      rw [HV.out]
      exact ⟨rfl, hb⟩
    · have HV := hide (show curveC code j = 0 by unfold curveC; rw [if_pos hv, if_pos hi])
      have wl : IntKind.i64.wrap ((code.length : Int) - 1) = (code.length : Int) - 1 := by rw [IntKind.wrap_i64]; omega
      go_enter Try.func63, Try.ntmps63
      go_wp2_with fail
      refine (l14Ok_any _ _ T code _ hc hn).mono ?_
      rw [hv]
      rintro e w1 ⟨rfl, hb⟩
      go_wp2_with (go_at_call 65; refine (l00In_any _ _ _ _).mono ?_; rintro e w' ⟨rfl, rfl⟩)
      go_ret
      rw [HV.out]
      exact ⟨rfl, hb⟩
theorem l15Many_any (A : Option Addr) (c T : Nat) (code : List (List Int)) (w : World) (hc : RC w T A code) (hn : code.length + sumLen code ≤ 1048576) :
    Calls Try.prog 88 #[.slice A code.length c] w (fun e w' => e = .returned (.int .i64 ((sumLen code / 2 : Nat) : Int)) ∧ w = w') := by
  have hq : Int.tdiv (sumLen code : Int) 2 = ((sumLen code / 2 : Nat) : Int) := by rw [Int.tdiv_eq_ediv_of_nonneg (by omega)]; omega
  go_enter Try.func88, Try.ntmps88
  go_wp2_with fail
  refine (l14Size_any _ _ T code _ hc hn).mono ?_
  rintro e w1 ⟨rfl, rfl⟩
  go_wp2_with fail
  go_ret
  first
    | exact ⟨rfl, rfl⟩
    | (refine ⟨?_, rfl⟩; rw [hq])
end Go.Proofs.Ytnjojnnapdhijaa
