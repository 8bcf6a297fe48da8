/-
  Plain lemmas: a valid code without some crossings is valid. Conditions: none; nothing of the program is named here.
-/
import Derived.Test.YtpgpchklmdhldaaMoveMath
namespace Go.Proofs.Ytpgpchklmdhldaa
open Go.RowKit
set_option linter.unusedVariables false

theorem numsW_range {g : Nat → Bool} : ∀ {n : Nat} {c v : Int}, (numsW g n).lookup c = some v → 0 ≤ c ∧ c < (n : Int)
  | 0, c, v, h => by cases h
  | n + 1, c, v, h => by
    unfold numsW at h
    split at h
    · have := numsW_range h
      omega
    · rw [lookup_snoc2] at h
      cases hc : (numsW g n).lookup c with
      | some u =>
        have := numsW_range hc
        omega
      | none =>
        rw [hc] at h
        simp at h
        omega
theorem numsW_inj {g : Nat → Bool} : ∀ {n : Nat} {c d v : Int}, (numsW g n).lookup c = some v → (numsW g n).lookup d = some v → c = d
  | 0, c, d, v, h, _ => by cases h
  | n + 1, c, d, v, h, h' => by
    unfold numsW at h h'
    split at h
    · rename_i hg
      rw [if_pos hg] at h'
      exact numsW_inj h h'
    · rename_i hg
      rw [if_neg hg] at h'
      rw [lookup_snoc2] at h h'
      have hok := numsW_ok g n
      cases hc : (numsW g n).lookup c with
      | some u =>
        rw [hc] at h
        injection h with h
        subst h
        have h1 := hok c u hc
        cases hd : (numsW g n).lookup d with
        | some t =>
          rw [hd] at h'
          injection h' with h'
          subst h'
          exact numsW_inj hc hd
        | none =>
          rw [hd] at h'
          simp at h'
          omega
      | none =>
        rw [hc] at h
        simp at h
        cases hd : (numsW g n).lookup d with
        | some t =>
          rw [hd] at h'
          injection h' with h'
          subst h'
          have h1 := hok d t hd
          omega
        | none =>
          rw [hd] at h'
          simp at h'
          omega
theorem numsW_sur {g : Nat → Bool} : ∀ {n : Nat} {v : Int}, 0 ≤ v → v < ((numsW g n).length : Int) → ∃ c, (numsW g n).lookup c = some v
  | 0, v, h1, h2 => by simp [numsW] at h2; omega
  | n + 1, v, h1, h2 => by
    unfold numsW at h2 ⊢
    split
    · rename_i hg
      rw [if_pos hg] at h2
      exact numsW_sur h1 h2
    · rename_i hg
      rw [if_neg hg, List.length_append, List.length_singleton] at h2
      by_cases hv : v < ((numsW g n).length : Int)
      · obtain ⟨c, hc⟩ := numsW_sur h1 hv
        exact ⟨c, by rw [lookup_snoc2, hc]; rfl⟩
      · refine ⟨(n : Int), ?_⟩
        rw [lookup_snoc2, numsW_fresh g n _ (Int.le_refl _), if_pos rfl]
        simp
        omega
theorem renC_flatten (f : Int → Option Int) (code : List (List Int)) : (renC f code).flatten = code.flatten.filterMap (renX f) := by
  unfold renC renRow
  induction code with
  | nil => rfl
  | cons x t ih => rw [List.map_cons, List.flatten_cons, List.flatten_cons, List.filterMap_append, ih]
theorem renX_some {f : Int → Option Int} {x b : Int} (h : renX f x = some b) : ∃ v, f (crI x) = some v ∧ b = if 0 < x then v + 1 else -v - 1 := by
  unfold renX at h
  cases hf : f (crI x) with
  | none => rw [hf] at h; cases h
  | some v =>
    rw [hf] at h
    injection h with h
    exact ⟨v, rfl, h.symm⟩
theorem crI_back {x y : Int} (h : crI x = crI y) (hs : 0 < x ↔ 0 < y) : x = y := by unfold crI at h; omega
theorem without_good {code : List (List Int)} {N : Nat} (g : Nat → Bool) (hN : sumLen code = 2 * N) (h : Good N code.flatten) : Good (numsW g N).length (renC (numF (numsW g N)) code).flatten := by
  have hok := numsW_ok g N
  rw [renC_flatten]
  constructor
  · unfold List.Nodup
    rw [List.pairwise_filterMap]
    refine List.Pairwise.imp ?_ h.1
    intro x y hxy a ha b hb e
    subst e
    obtain ⟨u, h1, h2⟩ := renX_some ha
    obtain ⟨v, h3, h4⟩ := renX_some hb
    have b1 := hok _ _ h1
    have b2 := hok _ _ h3
    have hs : (0 < x ↔ 0 < y) ∧ u = v := by
      rw [h2] at h4
      split at h4 <;> split at h4 <;> omega
    obtain ⟨hs, rfl⟩ := hs
    exact hxy (crI_back (numsW_inj h1 h3) hs)
  · intro b hb
    obtain ⟨x, hx, hb⟩ := List.mem_filterMap.1 hb
    obtain ⟨u, h1, h2⟩ := renX_some hb
    have b1 := hok _ _ h1
    split at h2 <;> omega
theorem without_len {code : List (List Int)} {N : Nat} (g : Nat → Bool) (hN : sumLen code = 2 * N) (h : Good N code.flatten) : sumLen (renC (numF (numsW g N)) code) = 2 * (numsW g N).length := by
  have hgood := without_good g hN h
  have hfl : code.flatten.length = 2 * N := by rw [flatten_len]; exact hN
  have h1 : (renC (numF (numsW g N)) code).flatten.length ≤ (bothL (numsW g N).length).length := len_le_of_sub hgood.1 fun x hx => bothL_mem.2 (hgood.2 x hx)
  have h2 : (bothL (numsW g N).length).length ≤ (renC (numF (numsW g N)) code).flatten.length := len_le_of_sub (bothL_nodup _) fun b hb => by
    obtain ⟨b0, b1, b2⟩ := bothL_mem.1 hb
    rw [renC_flatten, List.mem_filterMap]
    by_cases hp : 0 < b
    · obtain ⟨c, hc⟩ := numsW_sur (g := g) (n := N) (v := b - 1) (by omega) (by omega)
      have hr := numsW_range hc
      refine ⟨c + 1, h.all hfl (by omega) (by omega) (by omega), ?_⟩
      have e : crI (c + 1) = c := by unfold crI; omega
      rw [renX_up (v := b - 1) (by rw [e]; exact hc) (by omega)]
      congr 1
      omega
    · obtain ⟨c, hc⟩ := numsW_sur (g := g) (n := N) (v := -b - 1) (by omega) (by omega)
      have hr := numsW_range hc
      refine ⟨-c - 1, h.all hfl (by omega) (by omega) (by omega), ?_⟩
      have e : crI (-c - 1) = c := by unfold crI; omega
      rw [renX_down (v := -b - 1) (by rw [e]; exact hc) (by omega)]
      congr 1
      omega
  rw [bothL_length, flatten_len] at h1 h2
  omega
theorem without_valid {code : List (List Int)} (g : Nat → Bool) (h : validC code = true) : validC (withoutC g code) = true := by
  obtain ⟨N, h1, h2, h3, h4⟩ := validC_true h
  have e : sumLen code / 2 = N := by omega
  have hl := numsW_len g N
  unfold withoutC
  rw [e, validC_good (N := (numsW g N).length) (by rw [renC_length]; exact h1) (without_len g h2 h4) (by omega)]
  exact decide_eq_true (without_good g h2 h4)
theorem without_sum {code : List (List Int)} (g : Nat → Bool) (h : validC code = true) : sumLen (withoutC g code) = 2 * (numsW g (sumLen code / 2)).length := by
  obtain ⟨N, h1, h2, h3, h4⟩ := validC_true h
  have e : sumLen code / 2 = N := by omega
  unfold withoutC
  rw [e]
  exact without_len g h2 h4
theorem numsW_lt {g : Nat → Bool} {n k : Nat} (hk : k < n) (hg : g k = true) : (numsW g n).length < n := by
  induction n with
  | zero => omega
  | succ n ih =>
    unfold numsW
    split
    · have := numsW_len g n
      omega
    · rename_i hn
      have : k ≠ n := fun e => hn (e ▸ hg)
      have := ih (by omega)
      simp
      omega
theorem numsW_congr {g g' : Nat → Bool} : ∀ {n : Nat}, (∀ k, k < n → g k = g' k) → numsW g n = numsW g' n
  | 0, _ => rfl
  | n + 1, h => by
    unfold numsW
    rw [h n (by omega), numsW_congr fun k hk => h k (by omega)]
end Go.Proofs.Ytpgpchklmdhldaa
