/-
  The walk of the law LinkingTable: the core met with the contracts. Conditions: none.
-/
import Derived.Test.YtbeicgkgbhhgpaaTr18
import Derived.Test.YtbeicgkgbhhgpaaWLinkingTable
namespace Go.Proofs.Ytbeicgkgbhhgpaa
open Go.RowKit
set_option linter.unusedVariables false

theorem walk_LinkingTable (w : World) (wd0 ht0 : Int) (A0 : Option Addr) (c0 : Nat) (xs0 : List Int) (iw : I64 wd0) (ih : I64 ht0) (hx0 : ArgI w A0 c0 xs0) :
    Calls Try.prog 10 #[.agg #[.int .i64 wd0, .int .i64 ht0, .slice A0 xs0.length c0]] w fun e w' => e = .returned (.bool true) ∧ Below w.heap.size w w' :=
  walk_LinkingTable_of wd0 ht0 A0 c0 xs0 w hx0 fun hn => ⟨(lktR wd0 ht0 xs0).1, (lktR wd0 ht0 xs0).2, lktR_len wd0 ht0 xs0, fun W B d h hc => specLinkingTable_any _ _ _ _ _ _ h hc hn, fun W B d h hc => implLinkingTable_any _ _ _ _ _ _ h hc hn⟩
end Go.Proofs.Ytbeicgkgbhhgpaa
