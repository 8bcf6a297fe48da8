/-
  The walks of the laws ValidPoly, SamePoly, PolySum: the cores met with the contracts. Conditions: none.
-/
import Derived.Test.YthbhppbcbpllcaaPolyEq
import Derived.Test.YthbhppbcbpllcaaPolySum
import Derived.Test.YthbhppbcbpllcaaWValidPoly
import Derived.Test.YthbhppbcbpllcaaWSamePoly
import Derived.Test.YthbhppbcbpllcaaWPolySum
namespace Go.Proofs.Ythbhppbcbpllcaa
open Go.RowKit
set_option linter.unusedVariables false

theorem walk_ValidPoly (w : World) (l0 : Int) (A0 : Option Addr) (c0 : Nat) (xs0 : List Int) (il : I64 l0) (hx0 : ArgI w A0 c0 xs0) :
    Calls Try.prog 5 #[.agg #[.int .i64 l0, .slice A0 xs0.length c0]] w fun e w' => e = .returned (.bool true) ∧ Below w.heap.size w w' :=
  walk_ValidPoly_of l0 A0 c0 xs0 w hx0 fun hn => ⟨vldP l0 xs0, fun W B d h => specValidPoly_any _ _ _ _ _ h hn, fun W B d h => implValidPoly_any _ _ _ _ _ h hn⟩
theorem walk_SamePoly (w : World) (l0 : Int) (A0 : Option Addr) (c0 : Nat) (xs0 : List Int) (il0 : I64 l0) (hx0 : ArgI w A0 c0 xs0) (l1 : Int) (A1 : Option Addr) (c1 : Nat) (xs1 : List Int) (il1 : I64 l1) (hx1 : ArgI w A1 c1 xs1) :
    Calls Try.prog 4 #[.agg #[.int .i64 l0, .slice A0 xs0.length c0], .agg #[.int .i64 l1, .slice A1 xs1.length c1]] w fun e w' => e = .returned (.bool true) ∧ Below w.heap.size w w' :=
  walk_SamePoly_of l0 A0 c0 xs0 l1 A1 c1 xs1 w hx0 hx1 fun hn => ⟨decide (l0 = l1 ∧ xs0 = xs1), fun W B d B' d' h h' => specSamePoly_any _ _ _ _ _ _ _ _ _ h h' (by omega) (by omega), fun W B d B' d' h h' => implSamePoly_any _ _ _ _ _ _ _ _ _ h h' (by omega) (by omega)⟩
theorem walk_PolySum (w : World) (l0 : Int) (A0 : Option Addr) (c0 : Nat) (xs0 : List Int) (il : I64 l0) (hx0 : ArgI w A0 c0 xs0) :
    Calls Try.prog 6 #[.agg #[.int .i64 l0, .slice A0 xs0.length c0]] w fun e w' => e = .returned (.bool true) ∧ Below w.heap.size w w' :=
  walk_PolySum_of l0 A0 c0 xs0 w hx0 fun hn => ⟨(sumP l0 xs0).1, (sumP l0 xs0).2, fun W B d h => specPolySum_any _ _ _ _ _ h hn, fun W B d h => implPolySum_any _ _ _ _ _ h hn⟩
end Go.Proofs.Ythbhppbcbpllcaa
