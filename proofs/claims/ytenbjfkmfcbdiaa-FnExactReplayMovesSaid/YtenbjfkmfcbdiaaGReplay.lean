/-
  The walk of the law ReplayMoves: the core met with the contracts. Conditions: none.
-/
import Derived.Test.YtenbjfkmfcbdiaaReplay
import Derived.Test.YtenbjfkmfcbdiaaWReplayMoves
namespace Go.Proofs.Ytenbjfkmfcbdiaa
open Go.RowKit
set_option linter.unusedVariables false

theorem walk_ReplayMoves (w : World) (A0 : Option Addr) (c0 : Nat) (xs0 : List (List Int)) (hx0 : ArgC w A0 c0 xs0) (A1 : Option Addr) (c1 : Nat) (xs1 : List (Int × Int × Int)) (hx1 : ArgM w A1 c1 xs1) :
    Calls Try.prog 10 #[.slice A0 xs0.length c0, .slice A1 xs1.length c1] w fun e w' => e = .returned (.bool true) ∧ Below w.heap.size w w' :=
  walk_ReplayMoves_of A0 c0 xs0 A1 c1 xs1 w hx0 hx1 fun hn => ⟨(replayR xs0 xs1).1, (replayR xs0 xs1).2.1, (replayR xs0 xs1).2.2, replayR_len xs0 xs1 (by omega), fun W B d T B1 d1 h h1 => specReplay_any _ _ T _ _ _ _ _ h h1 (by omega) (by omega), fun W B d T B1 d1 h h1 => implReplay_any _ _ T _ _ _ _ _ h h1 (by omega) (by omega)⟩
end Go.Proofs.Ytenbjfkmfcbdiaa
