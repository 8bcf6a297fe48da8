/-
  The walk of the law SmoothStroke: the core met with the contracts. Conditions: none.
-/
import Derived.Test.YtbleipaekdhdmaaSmooth
import Derived.Test.YtbleipaekdhdmaaWSmoothStroke
namespace Go.Proofs.Ytbleipaekdhdmaa
open Go.RowKit
set_option linter.unusedVariables false

theorem smoothR_small (ps : List (Int × Int)) : (smoothR ps).1.length ≤ 1048576 := by
  unfold smoothR
  split
  · rename_i h
    have := (boxS_in h).2.2
    simp only [smoothS, smoothTo_length]
    omega
  · simp
theorem walk_SmoothStroke (w : World) (A0 : Option Addr) (c0 : Nat) (xs0 : List (Int × Int)) (hx0 : ArgP w A0 c0 xs0) :
    Calls Try.prog 5 #[.slice A0 xs0.length c0] w fun e w' => e = .returned (.bool true) ∧ Below w.heap.size w w' :=
  walk_SmoothStroke_of A0 c0 xs0 w hx0 fun hn => ⟨_, _, smoothR_small xs0, fun W B d h k => specSmoothStroke_any _ _ _ _ h hn, fun W B d h k => implSmoothStroke_any _ _ _ _ h hn⟩
end Go.Proofs.Ytbleipaekdhdmaa
