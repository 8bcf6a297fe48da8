/-
  What functions over panels hand back. Conditions: none; nothing of the program is named here.
-/
import Derived.Test.YtbeicgkgbhhgpaaGen
import Derived.Test.YtbeicgkgbhhgpaaPolyOk
namespace Go.Proofs.Ytbeicgkgbhhgpaa
open Go.RowKit
set_option linter.unusedVariables false

/-- A function that hands back a row of integers of its own and a code. -/
def RetIC (w : World) (xs : List Int) (v : Int) (e : Ending) (w' : World) : Prop := ∃ A c, e = .returned (.tuple #[.slice A xs.length c, .int .i64 v]) ∧ OwnI w' w.heap.size A c xs ∧ Below w.heap.size w w'
theorem ret_same {P : Program} {f : FuncId} {args : Array Value} {w : World} {v : Value} (h : Calls P f args w fun e w' => e = .returned v ∧ w = w') : Calls P f args w (RetV w v) :=
  h.mono fun _ _ ⟨he, hw⟩ => ⟨he, by rw [← hw]; exact Below.refl _ _⟩
end Go.Proofs.Ytbeicgkgbhhgpaa
