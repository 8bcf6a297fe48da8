/-
  Contract: slices.Reverse at a row of integers of the call's own. Conditions: none beyond the lengths.
-/
import Derived.Test.YtpgpchklmdhldaaFaultMath
import Derived.Deep.DeepCutAuto
namespace Go.Proofs.Ytpgpchklmdhldaa
open Go.RowKit
set_option linter.unusedVariables false

/-- the row with its first and its last k turned round -/
def revTo (xs : List Int) (k : Nat) : List Int := xs.mapIdx fun j y => if j < k ∨ xs.length - k ≤ j then xs.getD (xs.length - 1 - j) 0 else y
theorem revTo_length (xs : List Int) (k : Nat) : (revTo xs k).length = xs.length := by simp [revTo]
theorem revTo_zero (xs : List Int) : revTo xs 0 = xs := by
  apply List.ext_getElem?
  intro j
  by_cases h : j < xs.length
  · simp only [revTo, List.getElem?_mapIdx, List.getElem?_eq_getElem h, Option.map_some]
    rw [if_neg (by omega)]
  · simp [revTo, h]
theorem revTo_mid {xs : List Int} {k j : Nat} (h1 : k ≤ j) (h2 : j < xs.length - k) : (revTo xs k)[j]? = xs[j]? := by
  simp only [revTo, List.getElem?_mapIdx]
  rw [List.getElem?_eq_getElem (by omega), Option.map_some, if_neg (by omega)]
theorem revTo_next {xs : List Int} {k m : Nat} {x y : Int} (hk : k < m) (hm : m + k + 1 = xs.length) (hx : xs[k]? = some x) (hy : xs[m]? = some y) : ((revTo xs k).set k y).set m x = revTo xs (k + 1) := by
  apply List.ext_getElem?
  intro j
  by_cases hj : m = j
  · subst hj
    rw [List.getElem?_set_self (by rw [List.length_set, revTo_length]; omega)]
    simp only [revTo, List.getElem?_mapIdx, hy, Option.map_some]
    rw [if_pos (by omega), show xs.length - 1 - m = k by omega, getD_of hx]
  · rw [List.getElem?_set_ne hj]
    by_cases hj2 : k = j
    · subst hj2
      rw [List.getElem?_set_self (by rw [revTo_length]; omega)]
      simp only [revTo, List.getElem?_mapIdx, hx, Option.map_some]
      rw [if_pos (by omega), show xs.length - 1 - k = m by omega, getD_of hy]
    · rw [List.getElem?_set_ne hj2]
      simp only [revTo, List.getElem?_mapIdx]
      congr 1
      funext z
      by_cases h1 : j < k ∨ xs.length - k ≤ j
      · rw [if_pos h1, if_pos (by omega)]
      · rw [if_neg h1, if_neg (by omega)]
theorem revTo_end {xs : List Int} {k : Nat} (h : xs.length ≤ 2 * k + 1) : revTo xs k = xs.reverse := by
  apply List.ext_getElem?
  intro j
  by_cases hj : j < xs.length
  · rw [List.getElem?_reverse hj]
    simp only [revTo, List.getElem?_mapIdx, List.getElem?_eq_getElem hj, Option.map_some]
    rw [List.getElem?_eq_getElem (by omega)]
    congr 1
    by_cases h1 : j < k ∨ xs.length - k ≤ j
    · rw [if_pos h1, List.getD_eq_getElem?_getD, List.getElem?_eq_getElem (by omega)]; rfl
    · rw [if_neg h1]
      congr 1
      omega
  · simp [revTo, hj]

theorem grown_drew {a b : World} {r : Option Nat} (h : a.grownBy b r) : a.grownBy b.drew r := ⟨h.os, h.tape, h.output, h.size, h.block⟩

set_option maxHeartbeats 1000000 in
theorem slicesReverse_any (A : Option Addr) (c base : Nat) (xs : List Int) (w : World) (h : OwnI w base A c xs) (hn : xs.length ≤ 1048576) (hb : base ≤ w.heap.size) :
    Calls Try.prog 86 #[.slice A xs.length c] w fun e w' => e = .returned (.tuple #[]) ∧ OwnI w' base A c xs.reverse ∧ w.grownBy w' (blk A) := by
  go_enter Try.func86, Try.ntmps86
  go_wp2
  go_loopw [2, 3] (fun i m wr => ∃ (k : Nat) (ys : List Int), 2 * k ≤ xs.length + 1 ∧ i = .int .i64 k ∧ m = .int .i64 ((xs.length : Int) - 1 - k) ∧ Hid (ys = revTo xs k) ∧ OwnI wr base A c ys ∧ w.grownBy wr (blk A)) (fun i _ _ => xs.length - (intOf i).toNat)
  case atStart => exact ⟨0, xs, by omega, rfl, by simp, hide (by rw [revTo_zero]), h, World.grownBy.refl _ _⟩
  case round =>
    obtain ⟨k, ys, hk, rfl, rfl, hys, own, hg⟩ := hrel
    by_cases hlt : 2 * k + 1 < xs.length
    · obtain ⟨m, hm⟩ : ∃ m : Nat, m + k + 1 = xs.length := ⟨xs.length - k - 1, by omega⟩
      have hm1 : k < m := by omega
      have hx : xs[k]? = some xs[k] := List.getElem?_eq_getElem (by omega)
      have hy : xs[m]? = some xs[m] := List.getElem?_eq_getElem (by omega)
      have hN := revTo_next hm1 hm hx hy
      have hyl : ys.length = xs.length := by rw [hys.out, revTo_length]
      obtain ⟨g, u, rfl, hgb, hgs, hu, hgc, hgf, hst⟩ := own.at_ (k := k) (by omega)
      obtain ⟨g', v, hg', _, _, hv, hgc', hgf', _⟩ := own.at_ (k := m) (by omega)
      injection hg' with hg'
      injection hg' with hg'
      subst hg'
      have hue : u = xs[k] := by
        rw [hys.out, revTo_mid (Nat.le_refl _) (by omega), hx] at hu
        injection hu with hu
        exact hu.symm
      have hve : v = xs[m] := by
        rw [hys.out, revTo_mid (by omega) (by omega), hy] at hv
        injection hv with hv
        exact hv.symm
      obtain ⟨o1, g1⟩ := hst v
      obtain ⟨g2, v2, hg2, _, _, _, _, _, hst2⟩ := o1.at_ (k := m) (by rw [List.length_set]; omega)
      injection hg2 with hg2
      injection hg2 with hg2
      subst hg2
      obtain ⟨o2, g3⟩ := hst2 u
      have HO := hide o2
      have HG := hide (grown_drew (grown_trans hg (grown_trans g1 g3)))
      have HY : Hid ((ys.set k v).set m u = revTo xs (k + 1)) := by
        show _ = _
        rw [hys.out, hue, hve]
        exact hN
      have hm2 : (xs.length : Int) - 1 - (k : Int) = (m : Int) := by omega
      have hyl' := hide hyl
      clear hst hst2 o1 o2 g1 g3 hue hve hN hx hy hu hv hys hm hyl
      go_wp2_with fail
      go_region
      all_goals go_wp2
      all_goals go_roundw
      case rel => exact ⟨k + 1, _, by omega, by go_num, by go_num, HY, HO.out, HG.out⟩
      case measure => simp [intOf]; omega
    · have HE := revTo_end (xs := xs) (k := k) (by omega)
      have hys' := hys.out
      rw [HE] at hys'
      subst hys'
      clear hys HE
      go_wp2

      refine bodyPost_end (results_none rfl _ _ _) rfl ?_
      exact ⟨rfl, own, hg⟩
end Go.Proofs.Ytpgpchklmdhldaa
