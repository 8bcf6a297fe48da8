/-
  The walk of the law RenameCode: the core met with the contracts. Conditions: none.
-/
import Derived.Test.YtpgpchklmdhldaaRenI
import Derived.Test.YtpgpchklmdhldaaWRenameCode
namespace Go.Proofs.Ytpgpchklmdhldaa
open Go.RowKit
set_option linter.unusedVariables false

theorem walk_RenameCode (w : World) (A0 : Option Addr) (c0 : Nat) (xs0 : List (List Int)) (hx0 : ArgC w A0 c0 xs0) :
    Calls Try.prog 6 #[.slice A0 xs0.length c0] w fun e w' => e = .returned (.bool true) ∧ Below w.heap.size w w' :=
  walk_RenameCode_of A0 c0 xs0 w hx0 fun hn => ⟨(renR xs0).1, (renR xs0).2, renR_len xs0 hn, fun W B d T h => specRename_any _ _ T _ _ h hn, fun W B d T h => implRename_any _ _ T _ _ h hn⟩
end Go.Proofs.Ytpgpchklmdhldaa
