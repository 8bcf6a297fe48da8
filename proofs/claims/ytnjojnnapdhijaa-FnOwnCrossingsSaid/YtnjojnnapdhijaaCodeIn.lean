/-
  Contracts: the code of a code and a curve (l15Code), the number of crossings (l15Many). Conditions: none beyond the lengths.
-/
import Derived.Test.YtnjojnnapdhijaaCodeOk
import Derived.Test.YtnjojnnapdhijaaHas
namespace Go.Proofs.Ytnjojnnapdhijaa
open Go.RowKit
set_option linter.unusedVariables false

def curveC (code : List (List Int)) (j : Int) : Int := if validC code = true then (if inB j 0 ((code.length : Int) - 1) = true then 0 else 2) else 1
set_option maxHeartbeats 1000000 in
theorem l15Code_any (A : Option Addr) (c T : Nat) (code : List (List Int)) (j : Int) (w : World) (hc : RC w T A code) (hn : code.length + sumLen code ≤ 1048576) :
    Calls Try.prog 63 #[.slice A code.length c, .int .i64 j] w (RetV w (.int .i64 (curveC code j))) := by
  cases hv : validC code
  · have HV := hide (show curveC code j = 1 by unfold curveC; rw [if_neg (by rw [hv]; simp)])
    go_enter Try.func63, Try.ntmps63
    go_wp2_with fail
    refine (l14Ok_any _ _ T code _ hc hn).mono ?_
    rw [hv]
    rintro e w1 ⟨rfl, hb⟩
    go_wp2_with fail
    go_ret
    rw [HV.out]
    exact ⟨rfl, hb⟩
  · cases hi : inB j 0 ((code.length : Int) - 1)
    · have HV := hide (show curveC code j = 2 by unfold curveC; rw [if_pos hv, if_neg (by rw [hi]; simp)])
      have wl : IntKind.i64.wrap ((code.length : Int) - 1) = (code.length : Int) - 1 := by rw [IntKind.wrap_i64]; omega
      go_enter Try.func63, Try.ntmps63
      go_wp2_with fail
      refine (l14Ok_any _ _ T code _ hc hn).mono ?_
      rw [hv]
      rintro e w1 ⟨rfl, hb⟩
      go_wp2_with (go_at_call 65; refine (l00In_any _ _ _ _).mono ?_; rintro e w' ⟨rfl, rfl⟩)
      go_ret
      rw [HV.out]
      exact ⟨rfl, hb⟩
    · have HV := hide (show curveC code j = 0 by unfold curveC; rw [if_pos hv, if_pos hi])
      have wl : IntKind.i64.wrap ((code.length : Int) - 1) = (code.length : Int) - 1 := by rw [IntKind.wrap_i64]; omega
      go_enter Try.func63, Try.ntmps63
      go_wp2_with fail
      refine (l14Ok_any _ _ T code _ hc hn).mono ?_
      rw [hv]
      rintro e w1 ⟨rfl, hb⟩
      go_wp2_with (go_at_call 65; refine (l00In_any _ _ _ _).mono ?_; rintro e w' ⟨rfl, rfl⟩)
      go_ret
      rw [HV.out]
      exact ⟨rfl, hb⟩
theorem l15Many_any (A : Option Addr) (c T : Nat) (code : List (List Int)) (w : World) (hc : RC w T A code) (hn : code.length + sumLen code ≤ 1048576) :
    Calls Try.prog 88 #[.slice A code.length c] w (fun e w' => e = .returned (.int .i64 ((sumLen code / 2 : Nat) : Int)) ∧ w = w') := by
  have hq : Int.tdiv (sumLen code : Int) 2 = ((sumLen code / 2 : Nat) : Int) := by rw [Int.tdiv_eq_ediv_of_nonneg (by omega)]; omega
  go_enter Try.func88, Try.ntmps88
  go_wp2_with fail
  refine (l14Size_any _ _ T code _ hc hn).mono ?_
  rintro e w1 ⟨rfl, rfl⟩
  go_wp2_with fail
  go_ret
  first
    | exact ⟨rfl, rfl⟩
    | (refine ⟨?_, rfl⟩; rw [hq])
end Go.Proofs.Ytnjojnnapdhijaa
