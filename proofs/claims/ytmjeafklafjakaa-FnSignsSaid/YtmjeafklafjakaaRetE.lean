/-
  What functions over panels hand back. Conditions: none; nothing of the program is named here.
-/
import Derived.Test.YtmjeafklafjakaaRet
import Derived.Test.YtmjeafklafjakaaPolyOk
namespace Go.Proofs.Ytmjeafklafjakaa
open Go.RowKit
set_option linter.unusedVariables false

theorem ret_same {P : Program} {f : FuncId} {args : Array Value} {w : World} {v : Value} (h : Calls P f args w fun e w' => e = .returned v ∧ w = w') : Calls P f args w (RetV w v) :=
  h.mono fun _ _ ⟨he, hw⟩ => ⟨he, by rw [← hw]; exact Below.refl _ _⟩
theorem RI.markedOld {w0 w w' : World} {lo hi : Nat} {A : Option Addr} {xs : List Int} (h : RI w A xs) (hold : RI w0 A xs) (hM : Marked w w' lo hi) (hs : w0.heap.size ≤ lo) : RI w' A xs := fun hn =>
  Rd.keep h (fun b h1 h2 => hM.block b h1 (.inl (by have := hold.lt (by simpa using hn) h2; omega))) hn
theorem OwnC.grownRow {w w' : World} {base top : Nat} {A B : Option Addr} {c : Nat} {code : List (List Int)} (h : OwnC w base top A c code) (hg : w.grownBy w' (blk B)) (hB : ∀ g, blk B = some g → g < base ∨ top ≤ g) (ht : top ≤ w.heap.size) : OwnC w' base top A c code :=
  h.keep fun b h1 h2 => hg.block b (by omega) (fun e => by have := hB b e.symm; omega)
end Go.Proofs.Ytmjeafklafjakaa
