/-
  The walk of the law SmoothAt: the core met with the contracts. Conditions: none.
-/
import Derived.Test.YtgdgjcpkelokiaaSm5
import Derived.Test.YtgdgjcpkelokiaaWSmoothAt
namespace Go.Proofs.Ytgdgjcpkelokiaa
open Go.RowKit
set_option linter.unusedVariables false

theorem walk_SmoothAt (w : World) (wd0 ht0 : Int) (A0 : Option Addr) (c0 : Nat) (xs0 : List Int) (iw : I64 wd0) (ih : I64 ht0) (hx0 : ArgI w A0 c0 xs0) (a1 : Int) (h1 : I64 a1) (a2 : Bool) :
    Calls Try.prog 3 #[.agg #[.int .i64 wd0, .int .i64 ht0, .slice A0 xs0.length c0], .int .i64 a1, .bool a2] w fun e w' => e = .returned (.bool true) ∧ Below w.heap.size w w' :=
  walk_SmoothAt_of wd0 ht0 A0 c0 xs0 a1 a2 w hx0 fun hn => ⟨(smR wd0 ht0 xs0 a1 a2).1.1, (smR wd0 ht0 xs0 a1 a2).1.2.1, (smR wd0 ht0 xs0 a1 a2).1.2.2, (smR wd0 ht0 xs0 a1 a2).2, Nat.le_trans smR_len hn, fun W B d h hc => specSmoothAt_any _ _ _ _ _ _ _ _ h hn, fun W B d h hc => implSmoothAt_any _ _ _ _ _ _ _ _ h hn⟩
end Go.Proofs.Ytgdgjcpkelokiaa
