/-
  The walk of the law MovesText: the core met with the contracts. Conditions: none.
-/
import Derived.Test.YtenbjfkmfcbdiaaMovesText2
import Derived.Test.YtenbjfkmfcbdiaaWMovesText
namespace Go.Proofs.Ytenbjfkmfcbdiaa
open Go.RowKit
set_option linter.unusedVariables false

theorem walk_MovesText (w : World) (A0 : Option Addr) (c0 : Nat) (xs0 : List (Int × Int × Int)) (hx0 : ArgM w A0 c0 xs0) :
    Calls Try.prog 3 #[.slice A0 xs0.length c0] w fun e w' => e = .returned (.bool true) ∧ Below w.heap.size w w' :=
  walk_MovesText_of A0 c0 xs0 w hx0 fun hn => ⟨_, fun W B d h k => specMovesText_any _ _ _ _ h hn, fun W B d h k => implMovesText_any _ _ _ _ h hn⟩
end Go.Proofs.Ytenbjfkmfcbdiaa
