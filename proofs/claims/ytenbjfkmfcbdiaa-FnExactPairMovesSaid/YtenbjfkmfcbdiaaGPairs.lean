/-
  The walk of the law PairMoves: the core met with the contracts. Conditions: none.
-/
import Derived.Test.YtenbjfkmfcbdiaaPairs
import Derived.Test.YtenbjfkmfcbdiaaWPairMoves
namespace Go.Proofs.Ytenbjfkmfcbdiaa
open Go.RowKit
set_option linter.unusedVariables false

theorem walk_PairMoves (w : World) (A0 : Option Addr) (c0 : Nat) (xs0 : List (List Int)) (hx0 : ArgC w A0 c0 xs0) :
    Calls Try.prog 6 #[.slice A0 xs0.length c0] w fun e w' => e = .returned (.bool true) ∧ Below w.heap.size w w' :=
  walk_PairMoves_of A0 c0 xs0 w hx0 fun hn => ⟨(pairsR xs0).1, (pairsR xs0).2, pairsR_len xs0, fun W B d T h => specPairMoves_any _ _ T _ _ h hn, fun W B d T h => implPairMoves_any _ _ T _ _ h hn⟩
end Go.Proofs.Ytenbjfkmfcbdiaa
