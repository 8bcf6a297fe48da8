/-
  Contract: OwnCrossings, of the reference, whatever the curve. Conditions: none beyond the lengths.
-/
import Derived.Test.YtpgpchklmdhldaaOwnSpec
namespace Go.Proofs.Ytpgpchklmdhldaa
open Go.RowKit
set_option linter.unusedVariables false

set_option maxRecDepth 100000 in
theorem specOwn_no (A : Option Addr) (c T : Nat) (code : List (List Int)) (j : Int) (w : World) (hc : RC w T A code) (hn : code.length + sumLen code ≤ 1048576) (h0 : curveC code j ≠ 0) :
    Calls Try.prog 33 #[.slice A code.length c, .int .i64 j] w (RetIC w [] (curveC code j)) := by
  obtain ⟨q, hq⟩ : ∃ q, q = curveC code j := ⟨_, rfl⟩
  have h1 : (q != 0) = true := by rw [hq]; simpa using h0
  have HQ := hide hq
  clear h0
  go_enter Try.func33, Try.ntmps33
  go_wp2_with fail
  refine (l15Code_any _ _ T code _ _ hc hn).mono ?_
  rw [← hq]
  rintro e w1 ⟨rfl, hb1⟩
  clear hq
  go_wp2_with fail
  refine bodyPost_ret (v := .tuple #[.slice none 0 0, .int .i64 q]) (by simp [results, Try.results33, go_sem]) rfl ?_
  rw [← HQ.out]
  exact ⟨none, 0, rfl, OwnI.nil _ _, hb1⟩
end Go.Proofs.Ytpgpchklmdhldaa
