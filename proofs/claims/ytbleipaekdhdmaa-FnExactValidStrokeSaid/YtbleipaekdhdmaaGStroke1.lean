/-
  The walk of the law ValidStroke: the core met with the contracts. Conditions: none.
-/
import Derived.Test.YtbleipaekdhdmaaStroke1
import Derived.Test.YtbleipaekdhdmaaWValidStroke
namespace Go.Proofs.Ytbleipaekdhdmaa
open Go.RowKit
set_option linter.unusedVariables false

theorem walk_ValidStroke (w : World) (A0 : Option Addr) (c0 : Nat) (xs0 : List (Int × Int)) (hx0 : ArgP w A0 c0 xs0) :
    Calls Try.prog 3 #[.slice A0 xs0.length c0] w fun e w' => e = .returned (.bool true) ∧ Below w.heap.size w w' :=
  walk_ValidStroke_of A0 c0 xs0 w hx0 fun hn => ⟨vldS xs0, fun W B d h k => specValidStroke_any _ _ _ _ h hn, fun W B d h k => implValidStroke_any _ _ _ _ h hn⟩
end Go.Proofs.Ytbleipaekdhdmaa
