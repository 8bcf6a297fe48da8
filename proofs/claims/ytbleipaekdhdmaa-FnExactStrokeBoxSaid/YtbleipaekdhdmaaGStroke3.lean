/-
  The walk of the law StrokeBox: the core met with the contracts. Conditions: none.
-/
import Derived.Test.YtbleipaekdhdmaaStrokeKind
import Derived.Test.YtbleipaekdhdmaaWStrokeBox
namespace Go.Proofs.Ytbleipaekdhdmaa
open Go.RowKit
set_option linter.unusedVariables false

theorem walk_StrokeBox (w : World) (A0 : Option Addr) (c0 : Nat) (xs0 : List (Int × Int)) (hx0 : ArgP w A0 c0 xs0) :
    Calls Try.prog 4 #[.slice A0 xs0.length c0] w fun e w' => e = .returned (.bool true) ∧ Below w.heap.size w w' :=
  walk_StrokeBox_of A0 c0 xs0 w hx0 fun hn => ⟨_, _, _, _, _, fun W B d h k => specStrokeBox_any _ _ _ _ h hn, fun W B d h k => implStrokeBox_any _ _ _ _ h hn⟩
end Go.Proofs.Ytbleipaekdhdmaa
