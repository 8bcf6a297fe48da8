/-
  The walk of the law MeetingsOf: the core met with the contracts. Conditions: none.
-/
import Derived.Test.YtpgpchklmdhldaaMeet
import Derived.Test.YtpgpchklmdhldaaWMeetingsOf
namespace Go.Proofs.Ytpgpchklmdhldaa
open Go.RowKit
set_option linter.unusedVariables false

theorem walk_MeetingsOf (w : World) (A0 : Option Addr) (c0 : Nat) (xs0 : List (List Int)) (hx0 : ArgC w A0 c0 xs0) :
    Calls Try.prog 5 #[.slice A0 xs0.length c0] w fun e w' => e = .returned (.bool true) ∧ Below w.heap.size w w' :=
  walk_MeetingsOf_of A0 c0 xs0 w hx0 fun hn => ⟨(meetR xs0).1, (meetR xs0).2, meetR_len xs0, fun W B d T h => specMeet_any _ _ T _ _ h hn, fun W B d T h => implMeet_any _ _ T _ _ h hn⟩
end Go.Proofs.Ytpgpchklmdhldaa
