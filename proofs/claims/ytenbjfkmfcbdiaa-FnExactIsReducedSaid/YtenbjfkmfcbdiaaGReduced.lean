/-
  The walk of the law IsReduced: the core met with the contracts. Conditions: none.
-/
import Derived.Test.YtenbjfkmfcbdiaaFirst
import Derived.Test.YtenbjfkmfcbdiaaWIsReduced
namespace Go.Proofs.Ytenbjfkmfcbdiaa
open Go.RowKit
set_option linter.unusedVariables false

theorem walk_IsReduced (w : World) (A0 : Option Addr) (c0 : Nat) (xs0 : List (List Int)) (hx0 : ArgC w A0 c0 xs0) :
    Calls Try.prog 7 #[.slice A0 xs0.length c0] w fun e w' => e = .returned (.bool true) ∧ Below w.heap.size w w' :=
  walk_IsReduced_of A0 c0 xs0 w hx0 fun hn => ⟨_, fun W B d T h => specReduced_any _ _ T _ _ h hn, fun W B d T h => implReduced_any _ _ T _ _ h hn⟩
end Go.Proofs.Ytenbjfkmfcbdiaa
