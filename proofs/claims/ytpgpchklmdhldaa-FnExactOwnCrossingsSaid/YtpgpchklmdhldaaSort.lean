/-
  Contract: slices.Sort at a row of integers of the call's own. Conditions: none beyond the lengths.
-/
import Derived.Test.YtpgpchklmdhldaaContains
import Derived.Shelf.SortM.Plain
import Derived.Shelf.SortM.SortNone
import Derived.Ground.SlgmProg
import Derived.Shelf.Lay
import Derived.Sort.OwnSortedInts
namespace Go.Proofs
open Go.Shelf
shelf_lay_g SlLaysM.n5 Slgm 5 at Try 116 as Try.sortI
end Go.Proofs
namespace Go.Proofs.Ytpgpchklmdhldaa
open Go.RowKit Go.Sort
set_option linter.unusedVariables false

theorem sort_any (A : Option Addr) (c base : Nat) (xs : List Int) (w : World) (h : OwnI w base A c xs) (hn : xs.length ≤ 1048576) :
    Calls Try.prog 116 #[.slice A xs.length c] w fun e w' => e = .returned (.tuple #[]) ∧ OwnI w' base A c (xs.mergeSort fun x y => decide (x ≤ y)) ∧ w.grownBy w' (blk A) := by
  have hl : (xs.mergeSort fun x y => decide (x ≤ y)).length = xs.length := List.length_mergeSort xs
  by_cases h0 : xs.length = 0
  · have hx : xs = [] := List.eq_nil_of_length_eq_zero h0
    subst hx
    refine (AnyM.slices_Sort_int_none Try.sortI A c w).mono ?_
    rintro e w' ⟨rfl, rfl⟩
    exact ⟨rfl, by simpa using h, World.grownBy.refl _ _⟩
  · rcases h.2 with ⟨hv, hz⟩ | ⟨g, cap, cur, hv, hb, hh, hnc, hcm, hcs, ht⟩
    · exact absurd hz h0
    · injection hv with hA hn' hc'
      subst hA hc'
      have hH : Holds (Value.int .i64) w g 0 xs.toArray := holds_of_blockI hh (by rw [Nat.mul_one] at ht; exact ht)
      refine (AnyM.slices_Sort_int Try.sortI g 0 c xs w hH (Array.getElem?_eq_some_iff.1 hh).1 (by omega)).mono ?_
      rintro e w' ⟨rfl, n, os, rfl⟩
      refine ⟨rfl, ?_, grownBy_sortedI _⟩
      have := ownsRow_sortedI (n := n) (os := os) hl hb hh hnc hcm hcs
      unfold OwnI
      rw [hl]
      exact this
end Go.Proofs.Ytpgpchklmdhldaa
