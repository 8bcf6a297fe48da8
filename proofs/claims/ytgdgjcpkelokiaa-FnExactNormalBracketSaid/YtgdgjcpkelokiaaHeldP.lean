/-
  A panel's marks are held. Conditions: the lengths are far below the machine's.
-/
import Derived.Test.YtgdgjcpkelokiaaPanel
namespace Go.Proofs.Ytgdgjcpkelokiaa
open Go.RowKit
set_option linter.unusedVariables false

theorem heldPanel_any (wd ht : Int) (A : Option Addr) (c n : Nat) (k0 : Int) (w : World) (h : RI w A (marks k0 n)) (hn : n ≤ 1048576) (h0 : 0 ≤ k0) (h1 : k0 ≤ 4294967296) :
    Calls Try.prog 12 #[.agg #[.int .i64 wd, .int .i64 ht, .slice A n c], .int .i64 k0] w (RetV w (.int .i64 (k0 + n))) := by
  have hk : ¬ (k0 + (n : Int) < 0) := by omega
  go_enter Try.func12, Try.ntmps12
  go_wp2_with (go_at_call 32; refine (heldInt64S_any _ _ n _ _ (h.alloc _) hn h0 h1).mono ?_; rintro e w' ⟨rfl, rfl⟩)
  go_ret
  exact ⟨rfl, (Below.refl _ _).alloc (Nat.le_refl _) _⟩
end Go.Proofs.Ytgdgjcpkelokiaa
