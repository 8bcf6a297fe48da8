/-
  The walk of the law OwnCrossings: the core met with the contracts. Conditions: none.
-/
import Derived.Test.YtpgpchklmdhldaaOwnI
import Derived.Test.YtpgpchklmdhldaaWOwnCrossings
namespace Go.Proofs.Ytpgpchklmdhldaa
open Go.RowKit
set_option linter.unusedVariables false

theorem walk_OwnCrossings (w : World) (A0 : Option Addr) (c0 : Nat) (xs0 : List (List Int)) (hx0 : ArgC w A0 c0 xs0) (a1 : Int) (h1 : I64 a1) :
    Calls Try.prog 10 #[.slice A0 xs0.length c0, .int .i64 a1] w fun e w' => e = .returned (.bool true) ∧ Below w.heap.size w w' :=
  walk_OwnCrossings_of A0 c0 xs0 a1 w hx0 fun hn => ⟨(ownR xs0 a1).1, (ownR xs0 a1).2, ownR_len xs0 a1 hn, fun W B d T h => specOwnCrossings_any _ _ T _ _ _ h hn, fun W B d T h => implOwnCrossings_any _ _ T _ _ _ h hn⟩
end Go.Proofs.Ytpgpchklmdhldaa
