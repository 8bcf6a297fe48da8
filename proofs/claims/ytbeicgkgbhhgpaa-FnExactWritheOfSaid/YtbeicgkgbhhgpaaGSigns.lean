/-
  The walks of the laws SignOf, SignsOf, WritheOf: the cores met with the contracts. Conditions: none.
-/
import Derived.Test.YtbeicgkgbhhgpaaTr14
import Derived.Test.YtbeicgkgbhhgpaaWSignOf
import Derived.Test.YtbeicgkgbhhgpaaWSignsOf
import Derived.Test.YtbeicgkgbhhgpaaWWritheOf
namespace Go.Proofs.Ytbeicgkgbhhgpaa
open Go.RowKit
set_option linter.unusedVariables false

theorem walk_SignOf (w : World) (wd0 ht0 : Int) (A0 : Option Addr) (c0 : Nat) (xs0 : List Int) (iw : I64 wd0) (ih : I64 ht0) (hx0 : ArgI w A0 c0 xs0) (a1 : Int) (h1 : I64 a1) :
    Calls Try.prog 6 #[.agg #[.int .i64 wd0, .int .i64 ht0, .slice A0 xs0.length c0], .int .i64 a1] w fun e w' => e = .returned (.bool true) ∧ Below w.heap.size w w' :=
  walk_SignOf_of wd0 ht0 A0 c0 xs0 a1 w hx0 fun hn => ⟨(signR wd0 ht0 xs0 a1).1, (signR wd0 ht0 xs0 a1).2, fun W B d h hc => specSignOf_any _ _ _ _ _ _ _ h hc hn, fun W B d h hc => implSignOf_any _ _ _ _ _ _ _ h hc hn⟩
theorem walk_SignsOf (w : World) (wd0 ht0 : Int) (A0 : Option Addr) (c0 : Nat) (xs0 : List Int) (iw : I64 wd0) (ih : I64 ht0) (hx0 : ArgI w A0 c0 xs0) :
    Calls Try.prog 5 #[.agg #[.int .i64 wd0, .int .i64 ht0, .slice A0 xs0.length c0]] w fun e w' => e = .returned (.bool true) ∧ Below w.heap.size w w' :=
  walk_SignsOf_of wd0 ht0 A0 c0 xs0 w hx0 fun hn => ⟨(signsR wd0 ht0 xs0).1, (signsR wd0 ht0 xs0).2, signsR_len wd0 ht0 xs0 hn, fun W B d h hc => specSignsOf_any _ _ _ _ _ _ h hc hn, fun W B d h hc => implSignsOf_any _ _ _ _ _ _ h hc hn⟩
theorem walk_WritheOf (w : World) (wd0 ht0 : Int) (A0 : Option Addr) (c0 : Nat) (xs0 : List Int) (iw : I64 wd0) (ih : I64 ht0) (hx0 : ArgI w A0 c0 xs0) :
    Calls Try.prog 3 #[.agg #[.int .i64 wd0, .int .i64 ht0, .slice A0 xs0.length c0]] w fun e w' => e = .returned (.bool true) ∧ Below w.heap.size w w' :=
  walk_WritheOf_of wd0 ht0 A0 c0 xs0 w hx0 fun hn => ⟨(writheR wd0 ht0 xs0).1, (writheR wd0 ht0 xs0).2, fun W B d h hc => specWritheOf_any _ _ _ _ _ _ h hc hn, fun W B d h hc => implWritheOf_any _ _ _ _ _ _ h hc hn⟩
end Go.Proofs.Ytbeicgkgbhhgpaa
