/-
  Contracts: copies of panels, changes. Conditions: a valid panel's sides and breaks.
-/
import Derived.Test.YtmjeafklafjakaaTr6
import Derived.Test.YtmjeafklafjakaaPntMath
import Derived.Deep.RegionHeld3
namespace Go.Proofs.Ytmjeafklafjakaa
open Go.RowKit
set_option linter.unusedVariables false
section
variable {w w0 : World} {b : Nat} {o0 o1 o2 : Nat} {u0 u1 u2 : Value}
theorem Bx.far3 {b' : Nat} {t : TypeId} {cs : Array Value} (h : Bx w b' t cs) (hne : b' ≠ b) : Bx (((w.setCell ⟨b, o0, none⟩ u0).setCell ⟨b, o1, none⟩ u1).setCell ⟨b, o2, none⟩ u2) b' t cs :=
  ((h.far (p := ⟨b, o0, none⟩) hne u0).far (p := ⟨b, o1, none⟩) hne u1).far (p := ⟨b, o2, none⟩) hne u2
theorem Bx.put3 {t : TypeId} {v0 v1 v2 : Value} (h : Bx w b t #[v0, v1, v2]) : Bx (((w.setCell ⟨b, 0, none⟩ u0).setCell ⟨b, 1, none⟩ u1).setCell ⟨b, 2, none⟩ u2) b t #[u0, u1, u2] :=
  ((h.set_ 0 u0).set_ 1 u1).set_ 2 u2
theorem OwnI.far3 {base : Nat} {A : Option Addr} {c : Nat} {xs : List Int} (h : OwnI w base A c xs) (hb : ∀ g, blk A = some g → g ≠ b) : OwnI (((w.setCell ⟨b, o0, none⟩ u0).setCell ⟨b, o1, none⟩ u1).setCell ⟨b, o2, none⟩ u2) base A c xs := by
  have e : ∀ {W : World} {o : Nat} {u : Value}, OwnI W base A c xs → OwnI (W.setCell ⟨b, o, none⟩ u) base A c xs := fun {W o u} hw => hw.keep fun b' _ h2 => Below.heap_setCell W ⟨b, o, none⟩ u b' (hb b' h2)
  exact e (e (e h))
theorem below_put3 {B : Nat} (h : Below B w0 w) (hb : B ≤ b) : Below B w0 (((w.setCell ⟨b, o0, none⟩ u0).setCell ⟨b, o1, none⟩ u1).setCell ⟨b, o2, none⟩ u2) :=
  ((h.setCell (p := ⟨b, o0, none⟩) hb u0).setCell (p := ⟨b, o1, none⟩) hb u1).setCell (p := ⟨b, o2, none⟩) hb u2
end

end Go.Proofs.Ytmjeafklafjakaa
