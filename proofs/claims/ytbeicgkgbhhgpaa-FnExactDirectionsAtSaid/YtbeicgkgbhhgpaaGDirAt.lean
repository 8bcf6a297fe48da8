/-
  The walk of the law DirectionsAt: the core met with the contracts. Conditions: none.
-/
import Derived.Test.YtbeicgkgbhhgpaaTr19
import Derived.Test.YtbeicgkgbhhgpaaWDirectionsAt
namespace Go.Proofs.Ytbeicgkgbhhgpaa
open Go.RowKit
set_option linter.unusedVariables false

theorem walk_DirectionsAt (w : World) (wd0 ht0 : Int) (A0 : Option Addr) (c0 : Nat) (xs0 : List Int) (iw : I64 wd0) (ih : I64 ht0) (hx0 : ArgI w A0 c0 xs0) (a1 : Int) (h1 : I64 a1) :
    Calls Try.prog 4 #[.agg #[.int .i64 wd0, .int .i64 ht0, .slice A0 xs0.length c0], .int .i64 a1] w fun e w' => e = .returned (.bool true) ∧ Below w.heap.size w w' :=
  walk_DirectionsAt_of wd0 ht0 A0 c0 xs0 a1 w hx0 fun hn => ⟨(datR wd0 ht0 xs0 a1).1.x, (datR wd0 ht0 xs0 a1).1.y, (datR wd0 ht0 xs0 a1).1.dx, (datR wd0 ht0 xs0 a1).1.dy, (datR wd0 ht0 xs0 a1).2.1.x, (datR wd0 ht0 xs0 a1).2.1.y, (datR wd0 ht0 xs0 a1).2.1.dx, (datR wd0 ht0 xs0 a1).2.1.dy, (datR wd0 ht0 xs0 a1).2.2, fun W B d h hc => specDirectionsAt_any _ _ _ _ _ _ _ h hc hn, fun W B d h hc => implDirectionsAt_any _ _ _ _ _ _ _ h hc hn⟩
end Go.Proofs.Ytbeicgkgbhhgpaa
