/-
  Contract: one step of a walker, of the program. Conditions: a valid panel's sides and breaks, a walker of the panel.
-/
import Derived.Test.YtocellbhpjiioaaGreatTr3
namespace Go.Proofs.YtocellbhpjiioaaGreat
open Go.RowKit
set_option linter.unusedVariables false
end Go.Proofs.YtocellbhpjiioaaGreat
