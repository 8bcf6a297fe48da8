/-
  What functions over codes hand back; rows of integers beside marked rows. Conditions: none; nothing of the program is named here.
-/
import Derived.Test.YtnjojnnapdhijaaCode1
namespace Go.Proofs.Ytnjojnnapdhijaa
open Go.RowKit
set_option linter.unusedVariables false

/-- A function that hands back a row of integers of its own and a code. -/
def RetIC (w : World) (xs : List Int) (v : Int) (e : Ending) (w' : World) : Prop := ∃ A c, e = .returned (.tuple #[.slice A xs.length c, .int .i64 v]) ∧ OwnI w' w.heap.size A c xs ∧ Below w.heap.size w w'
/-- A code of its own and two numbers. -/
def RetCII (w : World) (code : List (List Int)) (n m : Int) (e : Ending) (w' : World) : Prop :=
  ∃ A c, e = .returned (.tuple #[.slice A code.length c, .int .i64 n, .int .i64 m]) ∧ OwnC w' w.heap.size w'.heap.size A c code ∧ Below w.heap.size w w'
section
variable {w w' : World} {lo hi base : Nat} {A : Option Addr} {c : Nat}
theorem OwnI.marked {xs : List Int} (h : OwnI w base A c xs) (hM : Marked w w' lo hi) (hg : ∀ g, blk A = some g → g < lo ∨ hi ≤ g) : OwnI w' base A c xs := h.keep fun b h1 h2 => hM.block b h1 (hg b h2)
theorem Own.marked {α : Type} {E : El α} {xs : List α} (h : Own E w base A c xs) (hM : Marked w w' lo hi) (hg : ∀ g, blk A = some g → g < lo ∨ hi ≤ g) : Own E w' base A c xs := h.keep fun b h1 h2 => hM.block b h1 (hg b h2)
theorem RG.marked {α : Type} {E : El α} {xs : List α} (h : RG E w A xs) (hM : Marked w w' lo hi) (hg : ∀ g, blk A = some g → 0 < xs.length → g < lo) : RG E w' A xs := fun hn => RG.keep h (fun b h1 h2 => hM.block b h1 (.inl (hg b h2 (by rw [E.flen] at hn; exact Nat.pos_of_mul_pos_right hn)))) hn
end
end Go.Proofs.Ytnjojnnapdhijaa
