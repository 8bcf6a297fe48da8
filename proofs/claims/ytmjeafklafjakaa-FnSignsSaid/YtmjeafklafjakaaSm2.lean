/-
  Contracts: the list of a panel's inner points. Conditions: a valid panel's sides and breaks.
-/
import Derived.Test.YtmjeafklafjakaaPntMath
import Derived.Test.YtmjeafklafjakaaRowsG
namespace Go.Proofs.Ytmjeafklafjakaa
open Go.RowKit
set_option linter.unusedVariables false
theorem row_next_facts {wd ht x y : Int} (hs : Sz wd ht) (y1 : 1 ≤ y) (y2 : y < 2 * ht) (x1 : 1 + y % 2 ≤ x) (hpar : (x + y) % 2 = 1) (hx : x < 2 * wd) : OnP wd ht x y ∧ ¬ Edge wd ht x y ∧ 0 ≤ numI wd x y ∧ numI wd (x + 2) y = numI wd x y + 1 := by
  obtain ⟨s1, s2, s3, s4⟩ := hs
  refine ⟨by unfold OnP; omega, by unfold Edge; omega, ?_, ?_⟩
  · unfold numI
    rcases eight s1 s2 with rfl | rfl | rfl | rfl | rfl | rfl | rfl | rfl <;> omega
  · unfold numI
    omega
theorem row_turn {wd x y : Int} (s1 : 1 ≤ wd) (s2 : wd ≤ 8) (y1 : 1 ≤ y) (x1 : 2 * wd ≤ x) (x2 : x ≤ 2 * wd + 1) (hpar : (x + y) % 2 = 1) : numI wd x y = numI wd (1 + (y + 1) % 2) (y + 1) := by
  unfold numI
  rcases eight s1 s2 with rfl | rfl | rfl | rfl | rfl | rfl | rfl | rfl <;> omega
theorem num_first (wd : Int) : numI wd 2 1 = 0 := by unfold numI; omega
theorem num_last {wd ht : Int} (hs : Sz wd ht) : numI wd (1 + (2 * ht) % 2) (2 * ht) = innerN wd ht := by
  obtain ⟨s1, s2, s3, s4⟩ := hs
  unfold numI innerN
  rcases eight s1 s2 with rfl | rfl | rfl | rfl | rfl | rfl | rfl | rfl <;> omega
theorem num_le {wd ht x y : Int} (hs : Sz wd ht) (y1 : 1 ≤ y) (y2 : y < 2 * ht) (x2 : x ≤ 2 * wd + 1) (x1 : 0 ≤ x) : numI wd x y ≤ 1000 ∧ -1000 ≤ numI wd x y := by
  obtain ⟨s1, s2, s3, s4⟩ := hs
  unfold numI
  rcases eight s1 s2 with rfl | rfl | rfl | rfl | rfl | rfl | rfl | rfl <;> omega
end Go.Proofs.Ytmjeafklafjakaa
