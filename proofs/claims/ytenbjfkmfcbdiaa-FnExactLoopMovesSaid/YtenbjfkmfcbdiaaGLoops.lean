/-
  The walk of the law LoopMoves: the core met with the contracts. Conditions: none.
-/
import Derived.Test.YtenbjfkmfcbdiaaLoops
import Derived.Test.YtenbjfkmfcbdiaaWLoopMoves
namespace Go.Proofs.Ytenbjfkmfcbdiaa
open Go.RowKit
set_option linter.unusedVariables false

theorem walk_LoopMoves (w : World) (A0 : Option Addr) (c0 : Nat) (xs0 : List (List Int)) (hx0 : ArgC w A0 c0 xs0) :
    Calls Try.prog 4 #[.slice A0 xs0.length c0] w fun e w' => e = .returned (.bool true) ∧ Below w.heap.size w w' :=
  walk_LoopMoves_of A0 c0 xs0 w hx0 fun hn => ⟨(loopsR xs0).1, (loopsR xs0).2, loopsR_len xs0 hn, fun W B d T h => specLoopMoves_any _ _ T _ _ h hn, fun W B d T h => implLoopMoves_any _ _ T _ _ h hn⟩
end Go.Proofs.Ytenbjfkmfcbdiaa
