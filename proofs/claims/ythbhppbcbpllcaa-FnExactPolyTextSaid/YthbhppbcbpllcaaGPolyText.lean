/-
  The walk of the law PolyText: the core met with the contracts. Conditions: none.
-/
import Derived.Test.YthbhppbcbpllcaaPolyText2
import Derived.Test.YthbhppbcbpllcaaWPolyText
namespace Go.Proofs.Ythbhppbcbpllcaa
open Go.RowKit
set_option linter.unusedVariables false

theorem walk_PolyText (w : World) (l0 : Int) (A0 : Option Addr) (c0 : Nat) (xs0 : List Int) (il : I64 l0) (hx0 : ArgI w A0 c0 xs0) :
    Calls Try.prog 9 #[.agg #[.int .i64 l0, .slice A0 xs0.length c0]] w fun e w' => e = .returned (.bool true) ∧ Below w.heap.size w w' :=
  walk_PolyText_of l0 A0 c0 xs0 w hx0 fun hn => ⟨_, fun W B d h k => specPolyText_any _ _ _ _ _ h hn, fun W B d h k => implPolyText_any _ _ _ _ _ h hn⟩
end Go.Proofs.Ythbhppbcbpllcaa
