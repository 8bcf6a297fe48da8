/-
  The walk of the law BracketOf: the core met with the contracts. Conditions: none.
-/
import Derived.Test.YtgdgjcpkelokiaaBr4
import Derived.Test.YtgdgjcpkelokiaaWBracketOf
namespace Go.Proofs.Ytgdgjcpkelokiaa
open Go.RowKit
set_option linter.unusedVariables false

theorem walk_BracketOf (w : World) (wd0 ht0 : Int) (A0 : Option Addr) (c0 : Nat) (xs0 : List Int) (iw : I64 wd0) (ih : I64 ht0) (hx0 : ArgI w A0 c0 xs0) :
    Calls Try.prog 4 #[.agg #[.int .i64 wd0, .int .i64 ht0, .slice A0 xs0.length c0]] w fun e w' => e = .returned (.bool true) ∧ Below w.heap.size w w' :=
  walk_BracketOf_of wd0 ht0 A0 c0 xs0 w hx0 fun hn => ⟨(brR wd0 ht0 xs0).1.1, (brR wd0 ht0 xs0).1.2, (brR wd0 ht0 xs0).2, Nat.le_trans brR_len (by omega), fun W B d h hc => specBracketOf_any _ _ _ _ _ _ h hn, fun W B d h hc => implBracketOf_any _ _ _ _ _ _ h hn⟩
end Go.Proofs.Ytgdgjcpkelokiaa
