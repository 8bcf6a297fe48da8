/-
  The walk of the law LeastCode: the core met with the contracts. Conditions: none.
-/
import Derived.Test.YtpgpchklmdhldaaLeastI
import Derived.Test.YtpgpchklmdhldaaWLeastCode
namespace Go.Proofs.Ytpgpchklmdhldaa
open Go.RowKit
set_option linter.unusedVariables false

theorem walk_LeastCode (w : World) (A0 : Option Addr) (c0 : Nat) (xs0 : List (List Int)) (hx0 : ArgC w A0 c0 xs0) :
    Calls Try.prog 8 #[.slice A0 xs0.length c0] w fun e w' => e = .returned (.bool true) ∧ Below w.heap.size w w' :=
  walk_LeastCode_of A0 c0 xs0 w hx0 fun hn => ⟨(leastCR xs0).1, (leastCR xs0).2, leastCR_len xs0 hn, fun W B d T h => specLeast_any _ _ T _ _ h hn, fun W B d T h => implLeast_any _ _ T _ _ h hn⟩
end Go.Proofs.Ytpgpchklmdhldaa
