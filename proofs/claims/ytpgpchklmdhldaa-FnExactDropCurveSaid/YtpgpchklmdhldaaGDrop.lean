/-
  The walk of the law DropCurve: the core met with the contracts. Conditions: none.
-/
import Derived.Test.YtpgpchklmdhldaaDropS
import Derived.Test.YtpgpchklmdhldaaWDropCurve
namespace Go.Proofs.Ytpgpchklmdhldaa
open Go.RowKit
set_option linter.unusedVariables false

theorem walk_DropCurve (w : World) (A0 : Option Addr) (c0 : Nat) (xs0 : List (List Int)) (hx0 : ArgC w A0 c0 xs0) (a1 : Int) (h1 : I64 a1) :
    Calls Try.prog 7 #[.slice A0 xs0.length c0, .int .i64 a1] w fun e w' => e = .returned (.bool true) ∧ Below w.heap.size w w' :=
  walk_DropCurve_of A0 c0 xs0 a1 w hx0 fun hn => ⟨(dropR xs0 a1).1, (dropR xs0 a1).2, dropR_len xs0 a1 hn, fun W B d T h => specDrop_any _ _ T _ _ _ h hn, fun W B d T h => implDrop_any _ _ T _ _ _ h hn⟩
end Go.Proofs.Ytpgpchklmdhldaa
