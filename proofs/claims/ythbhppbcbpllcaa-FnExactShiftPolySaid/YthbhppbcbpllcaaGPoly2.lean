/-
  The walks of the laws MulPolys, ShiftPoly, InversePoly: the cores met with the contracts. Conditions: none.
-/
import Derived.Test.YthbhppbcbpllcaaPolyInvI
import Derived.Test.YthbhppbcbpllcaaWMulPolys
import Derived.Test.YthbhppbcbpllcaaWShiftPoly
import Derived.Test.YthbhppbcbpllcaaWInversePoly
namespace Go.Proofs.Ythbhppbcbpllcaa
open Go.RowKit
set_option linter.unusedVariables false

theorem walk_MulPolys (w : World) (l0 : Int) (A0 : Option Addr) (c0 : Nat) (xs0 : List Int) (il0 : I64 l0) (hx0 : ArgI w A0 c0 xs0) (l1 : Int) (A1 : Option Addr) (c1 : Nat) (xs1 : List Int) (il1 : I64 l1) (hx1 : ArgI w A1 c1 xs1) :
    Calls Try.prog 10 #[.agg #[.int .i64 l0, .slice A0 xs0.length c0], .agg #[.int .i64 l1, .slice A1 xs1.length c1]] w fun e w' => e = .returned (.bool true) ∧ Below w.heap.size w w' :=
  walk_MulPolys_of l0 A0 c0 xs0 l1 A1 c1 xs1 w hx0 hx1 fun hn => ⟨(mulPR l0 xs0 l1 xs1).1, (mulPR l0 xs0 l1 xs1).2.1, (mulPR l0 xs0 l1 xs1).2.2, mulPR_le _ _ _ _, fun W B d B' d' h k h' k' => specMulPolys_any _ _ _ _ _ _ _ _ _ h h' (by omega) (by omega), fun W B d B' d' h k h' k' => implMulPolys_any _ _ _ _ _ _ _ _ _ h h' (by omega) (by omega) k k'⟩
theorem walk_ShiftPoly (w : World) (l0 : Int) (A0 : Option Addr) (c0 : Nat) (xs0 : List Int) (il0 : I64 l0) (hx0 : ArgI w A0 c0 xs0) (a1 : Int) (ia1 : I64 a1) (a2 : Int) (ia2 : I64 a2) :
    Calls Try.prog 8 #[.agg #[.int .i64 l0, .slice A0 xs0.length c0], .int .i64 a1, .int .i64 a2] w fun e w' => e = .returned (.bool true) ∧ Below w.heap.size w w' :=
  walk_ShiftPoly_of l0 A0 c0 xs0 a1 a2 w hx0 fun hn => ⟨(shiftPR l0 xs0 a1 a2).1, (shiftPR l0 xs0 a1 a2).2.1, (shiftPR l0 xs0 a1 a2).2.2, shiftPR_le _ _ _ _, fun W B d h k => specShiftPoly_any _ _ _ _ _ _ _ h hn, fun W B d h k => implShiftPoly_any _ _ _ _ _ _ _ h hn⟩
theorem walk_InversePoly (w : World) (l0 : Int) (A0 : Option Addr) (c0 : Nat) (xs0 : List Int) (il0 : I64 l0) (hx0 : ArgI w A0 c0 xs0) :
    Calls Try.prog 7 #[.agg #[.int .i64 l0, .slice A0 xs0.length c0]] w fun e w' => e = .returned (.bool true) ∧ Below w.heap.size w w' :=
  walk_InversePoly_of l0 A0 c0 xs0 w hx0 fun hn => ⟨(invPR l0 xs0).1, (invPR l0 xs0).2.1, (invPR l0 xs0).2.2, invPR_le _ _, fun W B d h k => specInversePoly_any _ _ _ _ _ h hn, fun W B d h k => implInversePoly_any _ _ _ _ _ h hn k⟩
end Go.Proofs.Ythbhppbcbpllcaa
