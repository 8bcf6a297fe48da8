/-
  Plain law of moves: what a move takes away, and that moves which are told are possible. Conditions: none; nothing of the program is named here.
-/
import Derived.Test.YtocellbhpjiioaaApply
namespace Go.Proofs.Ytocellbhpjiioaa
open Go.RowKit
set_option linter.unusedVariables false

theorem numsW_one {a : Nat} {g : Nat → Bool} (hg : ∀ j, g j = decide (j = a)) : ∀ n, (numsW g n).length + (if a < n then 1 else 0) = n
  | 0 => rfl
  | n + 1 => by
    have ih := numsW_one hg n
    unfold numsW
    by_cases h : n = a
    · rw [if_pos (by rw [hg]; exact decide_eq_true h), if_pos (by omega)]
      rw [if_neg (by omega)] at ih
      omega
    · rw [if_neg (by rw [hg, decide_eq_false h]; simp), List.length_append, List.length_singleton]
      by_cases h2 : a < n
      · rw [if_pos h2] at ih
        rw [if_pos (by omega)]
        omega
      · rw [if_neg h2] at ih
        rw [if_neg (by omega)]
        omega
theorem numsW_two {a b : Nat} {g : Nat → Bool} (hab : a < b) (hg : ∀ j, g j = (decide (j = a) || decide (j = b))) : ∀ n, (numsW g n).length + (if a < n then 1 else 0) + (if b < n then 1 else 0) = n
  | 0 => rfl
  | n + 1 => by
    have ih := numsW_two hab hg n
    unfold numsW
    by_cases h : n = a
    · rw [if_pos (by rw [hg, decide_eq_true h]; rfl), if_pos (by omega), if_neg (by omega)]
      rw [if_neg (by omega), if_neg (by omega)] at ih
      omega
    · by_cases h3 : n = b
      · rw [if_pos (by rw [hg, decide_eq_true h3]; simp), if_pos (by omega), if_pos (by omega)]
        rw [if_pos (by omega), if_neg (by omega)] at ih
        omega
      · rw [if_neg (by rw [hg, decide_eq_false h, decide_eq_false h3]; simp), List.length_append, List.length_singleton]
        by_cases h2 : a < n
        · rw [if_pos h2] at ih
          rw [if_pos (by omega)]
          by_cases h4 : b < n
          · rw [if_pos h4] at ih
            rw [if_pos (by omega)]
            omega
          · rw [if_neg h4] at ih
            rw [if_neg (by omega)]
            omega
        · rw [if_neg h2, if_neg (by omega)] at ih
          rw [if_neg (by omega), if_neg (by omega)]
          omega
/-- A move takes as many crossings away as its kind says. -/
theorem doM_count {code : List (List Int)} {k a b : Int} (hv : validC code = true) (hc : canB code (k, a, b) = true) :
    ((sumLen (doM code (k, a, b)) / 2 : Nat) : Int) = ((sumLen code / 2 : Nat) : Int) - k ∧ (k = 1 ∨ k = 2) := by
  obtain ⟨h1, h2, h3⟩ := canB_parts hc
  obtain ⟨f1, f2, f3⟩ := formB_parts h1
  have hs := without_sum (moveG (k, a, b)) hv
  unfold doM
  rw [hs, show 2 * (numsW (moveG (k, a, b)) (sumLen code / 2)).length / 2 = (numsW (moveG (k, a, b)) (sumLen code / 2)).length by omega]
  rcases f3 with ⟨rfl, rfl⟩ | ⟨rfl, f4, f5⟩
  · have := numsW_one (a := a.toNat) (g := moveG (1, a, 0)) (fun j => by
      unfold moveG
      rw [Bool.eq_iff_iff]
      simp
      omega) (sumLen code / 2)
    rw [if_pos (by omega)] at this
    omega
  · have := numsW_two (a := a.toNat) (b := b.toNat) (g := moveG (2, a, b)) (by omega) (fun j => by
      unfold moveG
      rw [Bool.eq_iff_iff]
      simp
      omega) (sumLen code / 2)
    rw [if_pos (by omega), if_pos (by omega)] at this
    omega
theorem loops_can {code : List (List Int)} (hv : validC code = true) {x : Int} (hx : x ∈ loopsL code (sumLen code / 2)) : canB code (1, x, 0) = true := by
  obtain ⟨a, h1, h2, rfl⟩ := loopsL_mem hx
  obtain ⟨hs1, hs2, hs3⟩ := valid_sum hv
  have hf : formB (1, (a : Int), ((0 : Nat) : Int)) = true := by
    unfold formB
    simp [inB_true]
    omega
  have := canB_loop hf h1 (by omega) rfl
  rw [h2] at this
  exact this
theorem pairs_can {code : List (List Int)} (hv : validC code = true) {r : List Int} (hr : r ∈ pairsL code (sumLen code / 2) (sumLen code / 2)) : ∃ a b : Nat, r = [(a : Int), (b : Int)] ∧ canB code (2, (a : Int), (b : Int)) = true := by
  obtain ⟨a, b, h1, h2, h3, h4, rfl⟩ := pairsL_mem hr
  obtain ⟨hs1, hs2, hs3⟩ := valid_sum hv
  refine ⟨a, b, rfl, ?_⟩
  have hf : formB (2, (a : Int), (b : Int)) = true := by
    unfold formB
    simp [inB_true]
    omega
  have := canB_pair hf h1 h2 (by decide)
  rw [h4] at this
  exact this
theorem applyR_ok {code : List (List Int)} {m : Int × Int × Int} (h : (applyR code m).2 = 0) : validC code = true ∧ canB code m = true ∧ (applyR code m).1 = doM code m := by
  unfold applyR at h ⊢
  split at h
  · rename_i h1
    split at h
    · rename_i h2
      split at h
      · rename_i h3
        rw [if_pos h1, if_pos h2, if_pos h3]
        exact ⟨h1, h3, rfl⟩
      · cases h
    · cases h
  · cases h
/-- A move is possible just if it is made. -/
theorem applyR_can (code : List (List Int)) (m : Int × Int × Int) : (validC code && canB code m) = decide ((applyR code m).2 = 0) := by
  by_cases h : (applyR code m).2 = 0
  · obtain ⟨h1, h2, _⟩ := applyR_ok h
    rw [h1, h2, decide_eq_true h]
    rfl
  · rw [decide_eq_false h]
    rw [Bool.and_eq_false_iff]
    by_cases h1 : validC code = true
    · right
      by_cases h2 : canB code m = true
      · exfalso
        apply h
        have h3 : formB m = true := by
          cases hf : formB m
          · rw [canB_form hf] at h2; cases h2
          · rfl
        unfold applyR
        rw [if_pos h1, if_pos h3, if_pos h2]
      · simpa using h2
    · left
      simpa using h1
end Go.Proofs.Ytocellbhpjiioaa
