/-
  The walks of the laws OwnWrithe, LinkingNumber, TotalLinking: the cores met with the contracts. Conditions: none.
-/
import Derived.Test.YtbeicgkgbhhgpaaTr18
import Derived.Test.YtbeicgkgbhhgpaaWOwnWrithe
import Derived.Test.YtbeicgkgbhhgpaaWLinkingNumber
import Derived.Test.YtbeicgkgbhhgpaaWTotalLinking
namespace Go.Proofs.Ytbeicgkgbhhgpaa
open Go.RowKit
set_option linter.unusedVariables false

theorem walk_OwnWrithe (w : World) (wd0 ht0 : Int) (A0 : Option Addr) (c0 : Nat) (xs0 : List Int) (iw : I64 wd0) (ih : I64 ht0) (hx0 : ArgI w A0 c0 xs0) (a1 : Int) (h1 : I64 a1) :
    Calls Try.prog 7 #[.agg #[.int .i64 wd0, .int .i64 ht0, .slice A0 xs0.length c0], .int .i64 a1] w fun e w' => e = .returned (.bool true) ∧ Below w.heap.size w w' :=
  walk_OwnWrithe_of wd0 ht0 A0 c0 xs0 a1 w hx0 fun hn => ⟨(ownR wd0 ht0 xs0 a1).1, (ownR wd0 ht0 xs0 a1).2, fun W B d h hc => specOwnWrithe_any _ _ _ _ _ _ _ h hc hn, fun W B d h hc => implOwnWrithe_any _ _ _ _ _ _ _ h hc hn⟩
theorem walk_LinkingNumber (w : World) (wd0 ht0 : Int) (A0 : Option Addr) (c0 : Nat) (xs0 : List Int) (iw : I64 wd0) (ih : I64 ht0) (hx0 : ArgI w A0 c0 xs0) (a1 : Int) (h1 : I64 a1) (a2 : Int) (h2 : I64 a2) :
    Calls Try.prog 9 #[.agg #[.int .i64 wd0, .int .i64 ht0, .slice A0 xs0.length c0], .int .i64 a1, .int .i64 a2] w fun e w' => e = .returned (.bool true) ∧ Below w.heap.size w w' :=
  walk_LinkingNumber_of wd0 ht0 A0 c0 xs0 a1 a2 w hx0 fun hn => ⟨(lnkR wd0 ht0 xs0 a1 a2).1, (lnkR wd0 ht0 xs0 a1 a2).2, fun W B d h hc => specLinkingNumber_any _ _ _ _ _ _ _ _ h hc hn, fun W B d h hc => implLinkingNumber_any _ _ _ _ _ _ _ _ h hc hn⟩
theorem walk_TotalLinking (w : World) (wd0 ht0 : Int) (A0 : Option Addr) (c0 : Nat) (xs0 : List Int) (iw : I64 wd0) (ih : I64 ht0) (hx0 : ArgI w A0 c0 xs0) :
    Calls Try.prog 8 #[.agg #[.int .i64 wd0, .int .i64 ht0, .slice A0 xs0.length c0]] w fun e w' => e = .returned (.bool true) ∧ Below w.heap.size w w' :=
  walk_TotalLinking_of wd0 ht0 A0 c0 xs0 w hx0 fun hn => ⟨(ttlR wd0 ht0 xs0).1, (ttlR wd0 ht0 xs0).2, fun W B d h hc => specTotalLinking_any _ _ _ _ _ _ h hc hn, fun W B d h hc => implTotalLinking_any _ _ _ _ _ _ h hc hn⟩
end Go.Proofs.Ytbeicgkgbhhgpaa
