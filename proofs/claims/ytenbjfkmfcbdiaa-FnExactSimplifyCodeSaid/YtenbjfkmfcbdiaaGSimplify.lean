/-
  The walk of the law SimplifyCode: the core met with the contracts. Conditions: none.
-/
import Derived.Test.YtenbjfkmfcbdiaaSimp
import Derived.Test.YtenbjfkmfcbdiaaWSimplifyCode
namespace Go.Proofs.Ytenbjfkmfcbdiaa
open Go.RowKit
set_option linter.unusedVariables false

theorem walk_SimplifyCode (w : World) (A0 : Option Addr) (c0 : Nat) (xs0 : List (List Int)) (hx0 : ArgC w A0 c0 xs0) :
    Calls Try.prog 11 #[.slice A0 xs0.length c0] w fun e w' => e = .returned (.bool true) ∧ Below w.heap.size w w' :=
  walk_SimplifyCode_of A0 c0 xs0 w hx0 fun hn => ⟨(simpR xs0).1, (simpR xs0).2.1, (simpR xs0).2.2, (simpR_len xs0 hn).1, (simpR_len xs0 hn).2, fun W B d T h => specSimp_any _ _ T _ _ h hn, fun W B d T h => implSimp_any _ _ T _ _ h hn⟩
end Go.Proofs.Ytenbjfkmfcbdiaa
