/-
  The walk of the law CodeFault: the core met with the contracts. Conditions: none.
-/
import Derived.Test.YtpgpchklmdhldaaFaultS
import Derived.Test.YtpgpchklmdhldaaWCodeFault
namespace Go.Proofs.Ytpgpchklmdhldaa
open Go.RowKit
set_option linter.unusedVariables false

theorem specCodeFault_any (A : Option Addr) (c T : Nat) (code : List (List Int)) (w : World) (hc : RC w T A code) (hn : code.length + sumLen code ≤ 1048576) :
    Calls Try.prog 15 #[.slice A code.length c] w (RetV w (fV (faultC code))) := by
  obtain ⟨a, b, d, h⟩ : ∃ a b d : Int, faultC code = (a, b, d) := ⟨_, _, _, rfl⟩
  have H := hide (fV_mk h)
  clear h
  go_enter Try.func15, Try.ntmps15
  go_wp2_with fail
  refine (specFault_any _ _ T code _ hc hn).mono ?_
  rw [H.out]
  rintro e w1 ⟨rfl, hb⟩
  go_wp2_with fail
  refine bodyPost_ret (v := .tuple #[.int .i64 a, .int .i64 b, .int .i64 d]) (by simp [results, Try.results15, go_sem]) rfl ?_
  rw [H.out]
  exact ⟨rfl, hb⟩
theorem walk_CodeFault (w : World) (A0 : Option Addr) (c0 : Nat) (xs0 : List (List Int)) (hx0 : ArgC w A0 c0 xs0) :
    Calls Try.prog 3 #[.slice A0 xs0.length c0] w fun e w' => e = .returned (.bool true) ∧ Below w.heap.size w w' :=
  walk_CodeFault_of A0 c0 xs0 w hx0 fun hn => ⟨(faultC xs0).1, (faultC xs0).2.1, (faultC xs0).2.2, fun W B d T h => specCodeFault_any _ _ T _ _ h hn, fun W B d T h => implFault_any _ _ T _ _ h hn⟩
end Go.Proofs.Ytpgpchklmdhldaa
