/-
  The walk of the law SortCurves: the core met with the contracts. Conditions: none.
-/
import Derived.Test.YtnjojnnapdhijaaSortS
import Derived.Test.YtnjojnnapdhijaaWSortCurves
namespace Go.Proofs.Ytnjojnnapdhijaa
open Go.RowKit
set_option linter.unusedVariables false

theorem walk_SortCurves (w : World) (A0 : Option Addr) (c0 : Nat) (xs0 : List (List Int)) (hx0 : ArgC w A0 c0 xs0) :
    Calls Try.prog 6 #[.slice A0 xs0.length c0] w fun e w' => e = .returned (.bool true) ∧ Below w.heap.size w w' :=
  walk_SortCurves_of A0 c0 xs0 w hx0 fun hn => ⟨(sortR xs0).1, (sortR xs0).2, sortR_len xs0 hn, fun W B d T h => specSortCurves_any _ _ T _ _ h hn, fun W B d T h => implSortCurves_any _ _ T _ _ h hn⟩
end Go.Proofs.Ytnjojnnapdhijaa
