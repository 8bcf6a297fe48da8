/-
  The walk of the law StrokeKind: the core met with the contracts. Conditions: none.
-/
import Derived.Test.YtbleipaekdhdmaaStrokeKind
import Derived.Test.YtbleipaekdhdmaaWStrokeKind
namespace Go.Proofs.Ytbleipaekdhdmaa
open Go.RowKit
set_option linter.unusedVariables false

theorem walk_StrokeKind (w : World) (A0 : Option Addr) (c0 : Nat) (xs0 : List (Int × Int)) (hx0 : ArgP w A0 c0 xs0) (a1 : Int) (i1 : I64 a1) :
    Calls Try.prog 8 #[.slice A0 xs0.length c0, .int .i64 a1] w fun e w' => e = .returned (.bool true) ∧ Below w.heap.size w w' :=
  walk_StrokeKind_of A0 c0 xs0 a1 w hx0 fun hn => ⟨(kindR xs0 a1).1, (kindR xs0 a1).2, fun W B d h k => specStrokeKind_any _ _ _ _ _ h hn, fun W B d h k => implStrokeKind_any _ _ _ _ _ h hn⟩
end Go.Proofs.Ytbleipaekdhdmaa
