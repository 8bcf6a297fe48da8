/-
  Contract: l15Odd, of the reference. Conditions: none beyond the lengths.
-/
import Derived.Test.YtnjojnnapdhijaaFaultMathM
import Derived.Test.YtnjojnnapdhijaaCodeInM
import Derived.Deep.QuietTactic
import Derived.BigQuiet
namespace Go.Proofs.Ytnjojnnapdhijaa
open Go.RowKit
set_option linter.unusedVariables false

def firstOdd (xs : List Int) : Int := match (List.range xs.length).find? (oddK xs) with
  | some k => (k : Int)
  | none => -1
theorem firstOdd_hit {xs : List Int} {k : Nat} (hk : k < xs.length) (h : ∀ j, j < k → oddK xs j = false) (h2 : oddK xs k = true) : firstOdd xs = (k : Int) := by
  unfold firstOdd
  rw [range_find_hit hk h h2]
theorem firstOdd_none {xs : List Int} (h : ∀ j, j < xs.length → oddK xs j = false) : firstOdd xs = -1 := by
  unfold firstOdd
  rw [range_find_none h]
theorem firstOdd_cases (xs : List Int) : (∃ k : Nat, firstOdd xs = (k : Int) ∧ k < xs.length ∧ oddK xs k = true ∧ ∀ j, j < k → oddK xs j = false) ∨ (firstOdd xs = -1 ∧ ∀ j, j < xs.length → oddK xs j = false) := by
  unfold firstOdd
  cases h : (List.range xs.length).find? (oddK xs) with
  | some k =>
    rw [List.find?_range_eq_some] at h
    exact .inl ⟨k, rfl, by simpa using h.2.1, h.1, fun j hj => by simpa using h.2.2 j hj⟩
  | none =>
    rw [List.find?_eq_none] at h
    exact .inr ⟨rfl, fun j hj => by simpa using h j (by simpa using hj)⟩
theorem oddAt_self {xs : List Int} {k j : Nat} (h : j ≤ k) : oddAt xs k j = false := by
  unfold oddAt
  simp
  omega
theorem oddAt_no {xs : List Int} {k j : Nat} {x y : Int} (hx : xs[k]? = some x) (hy : xs[j]? = some y) (h : (y == -x) = false) : oddAt xs k j = false := by
  unfold oddAt
  rw [getD_at hx, getD_at hy, h]
  simp
theorem oddAt_even {xs : List Int} {k j : Nat} {x y : Int} (h : ¬ (j - k) % 2 = 0) : oddAt xs k j = false := by
  unfold oddAt
  simp [h]
theorem oddAt_yes {xs : List Int} {k j : Nat} {x y : Int} (hk : k < j) (hx : xs[k]? = some x) (hy : xs[j]? = some y) (h : (y == -x) = true) (h2 : (j - k) % 2 = 0) : oddAt xs k j = true := by
  unfold oddAt
  rw [getD_at hx, getD_at hy, h]
  simp [hk, h2]

set_option maxRecDepth 100000 in
set_option maxHeartbeats 4000000 in
theorem l15Odd_any (A : Option Addr) (c : Nat) (xs : List Int) (w : World) (h : RI w A xs) (hn : xs.length ≤ 1048576) (hb0 : ∀ x ∈ xs, -9223372036854775808 < x ∧ x ≤ 9223372036854775807) :
    Calls Try.prog 64 #[.slice A xs.length c] w (RetV w (.int .i64 (firstOdd xs))) := by
  have HB := hide hb0
  clear hb0
  go_enter Try.func64, Try.ntmps64
  go_wp2_with fail
  go_loopw [3] (fun s wr => ∃ k : Nat, k ≤ xs.length ∧ s = .int .i64 k ∧ Hid (∀ j, j < k → oddK xs j = false) ∧ Below w.heap.size w wr) (fun s _ => xs.length - (intOf s).toNat)
  case atStart => exact ⟨0, Nat.zero_le _, rfl, hide (fun j hj => absurd hj (by omega)), Below.refl _ _⟩
  case round =>
    obtain ⟨k, hk, rfl, hodd, hB⟩ := hrel
    obtain ⟨wo, rfl⟩ : ∃ wo : World, wo = wr := ⟨_, rfl⟩
    by_cases hlt : k < xs.length
    · have hr := h.below hB
      obtain ⟨b, off, x, rfl, hb, hx, hcx⟩ := hr.at_ hlt
      have HX := hide hx
      have hbx := HB.out x (List.mem_of_getElem? hx)
      have wn : IntKind.i64.wrap (-x) = -x := by rw [IntKind.wrap_i64]; omega
      clear hx hbx
      go_wp2_with fail
      go_loopw [4] (fun s wr => ∃ j : Nat, k < j ∧ j ≤ xs.length ∧ s = .int .i64 j ∧ Hid (∀ m, m < j → oddAt xs k m = false) ∧ Below w.heap.size w wr) (fun s _ => xs.length - (intOf s).toNat)
      case atStart => exact ⟨k + 1, by omega, by omega, by go_num, hide (fun m hm => oddAt_self (by omega)), hB⟩
      case round =>
        clear hB hcx hr
        obtain ⟨j, hkj, hj, rfl, hno, hB⟩ := hrel
        have hr := h.below hB
        obtain ⟨bx, offx, x', hA, hbx, hx', hcx⟩ := hr.at_ hlt
        injection hA with hA; injection hA with q1 q2; subst q1 q2
        obtain rfl : x' = x := by have := HX.out; rw [hx'] at this; injection this
        clear hx'
        by_cases hlj : j < xs.length
        · obtain ⟨b2, off2, y, hA2, hb2, hy, hcy⟩ := hr.at_ hlj
          injection hA2 with hA2; injection hA2 with q1 q2; subst q1 q2
          have HY := hide hy
          have hlt1 : (k : Int) < (xs.length : Int) := by omega
          have hlt2 : (j : Int) < (xs.length : Int) := by omega
          have ws : IntKind.i64.wrap ((j : Int) - (k : Int)) = (j : Int) - (k : Int) := by rw [IntKind.wrap_i64]; omega
          have wt : Int.tmod ((j : Int) - (k : Int)) 2 = ((j : Int) - (k : Int)) % 2 := Int.tmod_eq_emod_of_nonneg (by omega)
          clear hy
          cases hyx : (y == -x')
          · have HN : Hid (∀ m, m < j + 1 → oddAt xs k m = false) := hide (fun m hm => by
              rcases Nat.lt_or_ge m j with h1 | h1
              · exact hno.out m h1
              · obtain rfl : m = j := by omega
                exact oddAt_no HX.out HY.out hyx)
            go_wp2_with fail
            go_quiet (fail)
            go_wp2_with fail
            go_roundw
            case rel => exact ⟨j + 1, by omega, by omega, by go_num, HN, below_drewN'' hB _⟩
            case measure => simp [intOf]; omega
          · by_cases hpar : (j - k) % 2 = 0
            · have hp : (((j : Int) - (k : Int)) % 2 == 0) = true := by rw [beq_iff_eq]; omega
              have HF := hide (firstOdd_hit hlt hodd.out (oddK_of hlj (oddAt_yes hkj HX.out HY.out hyx hpar)))
              go_wp2_with fail
              go_quiet (fail)
              go_wp2_with fail
              go_ret
              rw [HF.out]
              exact ⟨rfl, below_drewN'' hB _⟩
            · have hp : (((j : Int) - (k : Int)) % 2 == 0) = false := by rw [beq_eq_false_iff_ne]; omega
              have HN : Hid (∀ m, m < j + 1 → oddAt xs k m = false) := hide (fun m hm => by
                rcases Nat.lt_or_ge m j with h1 | h1
                · exact hno.out m h1
                · obtain rfl : m = j := by omega
                  exact oddAt_even (x := x') (y := y) hpar)
              go_wp2_with fail
              go_quiet (fail)
              go_wp2_with fail
              go_roundw
              case rel => exact ⟨j + 1, by omega, by omega, by go_num, HN, below_drewN'' hB _⟩
              case measure => simp [intOf]; omega
        · have HN : Hid (∀ j, j < k + 1 → oddK xs j = false) := hide (fun m hm => by
            rcases Nat.lt_or_ge m k with h1 | h1
            · exact hodd.out m h1
            · obtain rfl : m = k := by omega
              exact oddK_no (fun q hq => hno.out q (by omega)))
          go_wp2_with fail
          go_roundw
          case rel => exact ⟨k + 1, by omega, by go_num, HN, hB⟩
          case measure => simp [intOf]; omega
    · have HF := hide (firstOdd_none (xs := xs) (fun j hj => hodd.out j (by omega)))
      go_wp2_with fail
      go_ret
      rw [HF.out]
      exact ⟨rfl, hB⟩
end Go.Proofs.Ytnjojnnapdhijaa
