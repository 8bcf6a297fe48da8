/-
  The walk of the law AddPolys: the core met with the contracts. Conditions: none.
-/
import Derived.Test.YthbhppbcbpllcaaPolyTop
import Derived.Test.YthbhppbcbpllcaaPolyTopI
import Derived.Test.YthbhppbcbpllcaaWAddPolys
namespace Go.Proofs.Ythbhppbcbpllcaa
open Go.RowKit
set_option linter.unusedVariables false

theorem walk_AddPolys (w : World) (l0 : Int) (A0 : Option Addr) (c0 : Nat) (xs0 : List Int) (il0 : I64 l0) (hx0 : ArgI w A0 c0 xs0) (l1 : Int) (A1 : Option Addr) (c1 : Nat) (xs1 : List Int) (il1 : I64 l1) (hx1 : ArgI w A1 c1 xs1) :
    Calls Try.prog 11 #[.agg #[.int .i64 l0, .slice A0 xs0.length c0], .agg #[.int .i64 l1, .slice A1 xs1.length c1]] w fun e w' => e = .returned (.bool true) ∧ Below w.heap.size w w' :=
  walk_AddPolys_of l0 A0 c0 xs0 l1 A1 c1 xs1 w hx0 hx1 fun hn => ⟨(addPR l0 xs0 l1 xs1).1, (addPR l0 xs0 l1 xs1).2.1, (addPR l0 xs0 l1 xs1).2.2, addPR_le _ _ _ _, fun W B d B' d' h k h' k' => specAddPolys_any _ _ _ _ _ _ _ _ _ h h' (by omega) (by omega) k k', fun W B d B' d' h k h' k' => implAddPolys_any _ _ _ _ _ _ _ _ _ h h' (by omega) (by omega) k k'⟩
end Go.Proofs.Ythbhppbcbpllcaa
