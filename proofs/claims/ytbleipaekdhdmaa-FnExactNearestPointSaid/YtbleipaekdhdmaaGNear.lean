/-
  The walk of the law NearestPoint: the core met with the contracts. Conditions: none.
-/
import Derived.Test.YtbleipaekdhdmaaNearest
import Derived.Test.YtbleipaekdhdmaaWNearestPoint
namespace Go.Proofs.Ytbleipaekdhdmaa
open Go.RowKit
set_option linter.unusedVariables false

theorem walk_NearestPoint (w : World) (wd0 ht0 : Int) (A0 : Option Addr) (c0 : Nat) (xs0 : List Int) (iw : I64 wd0) (ih : I64 ht0) (hx0 : ArgI w A0 c0 xs0) (px1 py1 : Int) (ix : I64 px1) (iy : I64 py1) (a2 : Int) (i2 : I64 a2) :
    Calls Try.prog 9 #[.agg #[.int .i64 wd0, .int .i64 ht0, .slice A0 xs0.length c0], .agg #[.int .i64 px1, .int .i64 py1], .int .i64 a2] w fun e w' => e = .returned (.bool true) ∧ Below w.heap.size w w' :=
  walk_NearestPoint_of wd0 ht0 A0 c0 xs0 px1 py1 a2 w hx0 fun hn => ⟨_, _, _, fun W B d h k => specNearestPoint_any _ _ _ _ _ _ _ _ _ h hn, fun W B d h k => implNearestPoint_any _ _ _ _ _ _ _ _ _ h hn⟩
end Go.Proofs.Ytbleipaekdhdmaa
