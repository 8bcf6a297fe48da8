/-
  The walk of the law ApplyMove: the core met with the contracts. Conditions: none.
-/
import Derived.Test.YtenbjfkmfcbdiaaApply
import Derived.Test.YtenbjfkmfcbdiaaWApplyMove
namespace Go.Proofs.Ytenbjfkmfcbdiaa
open Go.RowKit
set_option linter.unusedVariables false

theorem walk_ApplyMove (w : World) (A0 : Option Addr) (c0 : Nat) (xs0 : List (List Int)) (hx0 : ArgC w A0 c0 xs0) (x1 y1 z1 : Int) (i1 : I64 x1) (i2 : I64 y1) (i3 : I64 z1) :
    Calls Try.prog 9 #[.slice A0 xs0.length c0, .agg #[.int .i64 x1, .int .i64 y1, .int .i64 z1]] w fun e w' => e = .returned (.bool true) ∧ Below w.heap.size w w' :=
  walk_ApplyMove_of A0 c0 xs0 x1 y1 z1 w hx0 fun hn => ⟨_, _, applyR_len xs0 (x1, y1, z1) hn, fun W B d T h => specApply_any _ _ T _ _ _ _ _ h hn, fun W B d T h => implApply_any _ _ T _ _ _ _ _ h hn⟩
end Go.Proofs.Ytenbjfkmfcbdiaa
