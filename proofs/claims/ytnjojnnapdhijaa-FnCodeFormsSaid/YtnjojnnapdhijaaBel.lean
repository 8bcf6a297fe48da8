/-
  A region that draws its order, whose callees may lay blocks, walked once. Conditions: none; nothing of the program is named here.
-/
import Derived.Test.YtnjojnnapdhijaaGen
import Derived.Test.YtnjojnnapdhijaaPolyOk
import Derived.BigQuiet
namespace Go.Proofs.Ytnjojnnapdhijaa
open Go.RowKit
set_option linter.unusedVariables false

/-- A world at which nothing below W0 has changed. -/
structure BelowOf (W0 : World) where
  w : World
  h : Below W0.heap.size W0 w
instance (W0 : World) : Nonempty (BelowOf W0) := ⟨⟨W0, Below.refl _ _⟩⟩
/-- A region whose callees may lay blocks, walked once: the class of worlds is 'BelowOf'. -/
theorem region_below {P : Program} {id : Nat} {Q : Exit → Act → World → Prop} {a : Act} {w W0 : World} {l : List Oper} (hm : P.follows .mixedOrders = true) (hB : Region.lexB .any l.toArray = true) (hC : Below W0.heap.size W0 w.drew)
    (h : wpQuiet P l.toArray (fun w' => ∃ p : BelowOf W0, w' = p.w) (fun a' => ∀ w', (∃ p : BelowOf W0, w' = p.w) → Q .normal a' w') l a) : (Code.region id l.toArray true).wp P Q a w :=
  wp_region_quiet (C := fun w' => ∃ p : BelowOf W0, w' = p.w) hm hB ⟨⟨_, hC⟩, rfl⟩ (by simpa using h)
theorem BelowOf.ret {P : Program} {f : FuncId} {args : Array Value} {W0 : World} {v : Value} {p : BelowOf W0} (h : Calls P f args p.w (RetV p.w v)) : Calls P f args p.w fun e w' => e = .returned v ∧ ∃ q : BelowOf W0, w' = q.w :=
  h.mono fun _ _ ⟨he, hb⟩ => ⟨he, ⟨⟨_, p.h.trans (hb.mono p.h.size)⟩, rfl⟩⟩
end Go.Proofs.Ytnjojnnapdhijaa
