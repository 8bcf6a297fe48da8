/-
  Contracts of the laws' helpers over polynomials, and of the two tests for equality. Conditions: the lengths are far below the machine's.
-/
import Derived.Test.YtgdgjcpkelokiaaPolyOk
namespace Go.Proofs.Ytgdgjcpkelokiaa
open Go.RowKit
set_option linter.unusedVariables false

/-- A function that hands back a polynomial whose coefficients lie in memory of its own. -/
def RetP (w : World) (low : Int) (xs : List Int) (e : Ending) (w' : World) : Prop :=
  ∃ A c, e = .returned (.agg #[.int .i64 low, .slice A xs.length c]) ∧ OwnI w' w.heap.size A c xs ∧ Below w.heap.size w w'

set_option maxHeartbeats 400000 in
theorem eqPoly_any (l1 l2 : Int) (A B : Option Addr) (c d : Nat) (xs ys : List Int) (w : World) (hA : RI w A xs) (hB : RI w B ys) (hn : xs.length ≤ 1048576) (hm : ys.length ≤ 1048576) :
    Calls Try.prog 15 #[.agg #[.int .i64 l1, .slice A xs.length c], .agg #[.int .i64 l2, .slice B ys.length d]] w (RetV w (.bool (decide (l1 = l2 ∧ xs = ys)))) := by
  by_cases hl : l1 = l2
  · subst hl
    have hne : (l1 != l1) = false := by simp
    have HB := hide (show decide (l1 = l1 ∧ xs = ys) = decide (xs = ys) by simp)
    cases hd : decide (xs = ys)
    all_goals
      go_enter Try.func15, Try.ntmps15
      go_wp2_with (go_at_call 30; refine (eqInt64S_any _ _ _ _ xs ys _ ((hA.alloc _).alloc _) ((hB.alloc _).alloc _) hn hm).mono ?_; rintro e w' ⟨rfl, n, rfl⟩)
      go_ret
      rw [HB.out, hd]
      exact ⟨rfl, (((Below.refl _ _).alloc (Nat.le_refl _) _).alloc (by simp) _).trans (below_drewN (Below.refl _ _) _)⟩
  · have hne : (l1 != l2) = true := by simpa using hl
    have HB := hide (show decide (l1 = l2 ∧ xs = ys) = false by simp [hl])
    go_enter Try.func15, Try.ntmps15
    go_wp2_with fail
    go_ret
    rw [HB.out]
    exact ⟨rfl, ((Below.refl _ _).alloc (Nat.le_refl _) _).alloc (by simp) _⟩

theorem markPoly_any (low : Int) (A : Option Addr) (c base : Nat) (xs : List Int) (k0 : Int) (w : World) (h : OwnI w base A c xs) (hn : xs.length ≤ 1048576) (h0 : 0 ≤ k0) (h1 : k0 ≤ 4294967296) :
    Calls Try.prog 16 #[.agg #[.int .i64 low, .slice A xs.length c], .int .i64 k0] w fun e w' => e = .returned (.int .i64 (k0 + xs.length)) ∧ OwnI w' base A c (marks k0 xs.length) ∧ w.grownBy w' (blk A) := by
  go_enter Try.func16, Try.ntmps16
  go_wp2_with (go_at_call 31; refine (markInt64S_any _ _ base xs _ _ (h.alloc _) hn h0 h1).mono ?_; rintro e w' ⟨rfl, hown, hg⟩)
  go_ret
  exact ⟨rfl, hown, grown_trans (World.grownBy_alloc _ _ _) hg⟩
theorem heldPoly_any (low : Int) (A : Option Addr) (c n : Nat) (k0 : Int) (w : World) (h : RI w A (marks k0 n)) (hn : n ≤ 1048576) (h0 : 0 ≤ k0) (h1 : k0 ≤ 4294967296) :
    Calls Try.prog 17 #[.agg #[.int .i64 low, .slice A n c], .int .i64 k0] w (RetV w (.int .i64 (k0 + n))) := by
  have hk : ¬ (k0 + (n : Int) < 0) := by omega
  go_enter Try.func17, Try.ntmps17
  go_wp2_with (go_at_call 32; refine (heldInt64S_any _ _ n _ _ (h.alloc _) hn h0 h1).mono ?_; rintro e w' ⟨rfl, rfl⟩)
  go_ret
  exact ⟨rfl, (Below.refl _ _).alloc (Nat.le_refl _) _⟩

end Go.Proofs.Ytgdgjcpkelokiaa
