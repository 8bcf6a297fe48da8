/-
  Plain lemmas: the least code of a single curve. Conditions: none; nothing of the program is named here.
-/
import Derived.Test.YtpgpchklmdhldaaTurn
import Derived.Test.YtpgpchklmdhldaaLex
namespace Go.Proofs.Ytpgpchklmdhldaa
open Go.RowKit
set_option linter.unusedVariables false

/-- the row of the renamed code of one curve -/
def renL (l : List Int) : List Int := renRow (numF (numsL l)) l
theorem renameC_one (l : List Int) : renameC [l] = [renL l] := by
  unfold renameC renL renC
  simp
theorem rotL_eq {xs : List Int} {a : Nat} (ha : a < xs.length) : xs.drop a ++ xs.take a = turnL xs a false := by
  apply List.ext_getElem?
  intro k
  unfold turnL
  rw [List.getElem?_map]
  by_cases hk : k < xs.length
  · rw [List.getElem?_range hk, Option.map_some]
    unfold turnX
    rw [if_neg (by simp)]
    rw [List.getElem?_append]
    have hl : (xs.drop a).length = xs.length - a := List.length_drop
    rw [hl]
    split
    · rename_i h
      have e : (a + k) % xs.length = a + k := Nat.mod_eq_of_lt (by omega)
      rw [e, List.getElem?_drop, List.getD_eq_getElem?_getD, List.getElem?_eq_getElem (show a + k < xs.length by omega)]
      rfl
    · rename_i h
      have e : (a + k) % xs.length = a + k - xs.length := by
        rw [Nat.mod_eq_sub_mod (by omega)]
        exact Nat.mod_eq_of_lt (by omega)
      rw [e, List.getElem?_take_of_lt (by omega), show k - (xs.length - a) = a + k - xs.length by omega, List.getD_eq_getElem?_getD, List.getElem?_eq_getElem (show a + k - xs.length < xs.length by omega)]
      rfl
  · rw [List.getElem?_eq_none (by simp; omega), List.getElem?_eq_none (by simp; omega)]
    rfl
theorem rev_turn {xs : List Int} {a : Nat} (ha : a < xs.length) : turnL xs.reverse a false = turnL xs (xs.length - 1 - a) true := by
  unfold turnL
  rw [List.length_reverse]
  apply List.map_congr_left
  intro k hk
  have hk := List.mem_range.1 hk
  unfold turnX
  rw [if_neg (by simp), if_pos rfl, List.length_reverse]
  have h1 : (a + k) % xs.length < xs.length := Nat.mod_lt _ (by omega)
  have h2 : (xs.length - 1 - a + xs.length - k) % xs.length = xs.length - 1 - (a + k) % xs.length := by
    by_cases h : a + k < xs.length
    · rw [Nat.mod_eq_of_lt h, Nat.mod_eq_sub_mod (by omega), Nat.mod_eq_of_lt (by omega)]
      omega
    · rw [Nat.mod_eq_sub_mod (show xs.length ≤ a + k by omega), Nat.mod_eq_of_lt (show a + k - xs.length < xs.length by omega), Nat.mod_eq_of_lt (by omega)]
      omega
  rw [h2, List.getD_eq_getElem?_getD, List.getD_eq_getElem?_getD, List.getElem?_reverse h1]
/-- the lists that the program tries, as far as row i, index k -/
def triI (xs : List Int) : List (List Int) := (List.range xs.length).map fun a => renL (xs.drop a ++ xs.take a)
def triS (xs : List Int) (m : Nat) : List (List Int) := ((List.range m).map fun a => [renL (turnL xs a false), renL (turnL xs a true)]).flatten
def leastR (xs : List Int) : List Int := leastL (renL xs) (triS xs xs.length)
theorem tri_same {xs : List Int} : leastL (renL xs) (triI xs ++ triI xs.reverse) = leastR xs := by
  unfold leastR
  refine leastL_same fun y => ?_
  rw [List.mem_append]
  unfold triI triS
  rw [List.mem_flatten, List.length_reverse]
  constructor
  · rintro (h | h)
    · obtain ⟨a, ha, rfl⟩ := List.mem_map.1 h
      have ha := List.mem_range.1 ha
      exact ⟨_, List.mem_map.2 ⟨a, List.mem_range.2 ha, rfl⟩, by rw [rotL_eq ha]; simp⟩
    · obtain ⟨a, ha, rfl⟩ := List.mem_map.1 h
      have ha := List.mem_range.1 ha
      refine ⟨_, List.mem_map.2 ⟨xs.length - 1 - a, List.mem_range.2 (by omega), rfl⟩, ?_⟩
      rw [rotL_eq (by simpa using ha), rev_turn ha]
      simp
  · rintro ⟨l, hl, hy⟩
    obtain ⟨a, ha, rfl⟩ := List.mem_map.1 hl
    have ha := List.mem_range.1 ha
    rcases List.mem_cons.1 hy with rfl | hy
    · exact .inl (List.mem_map.2 ⟨a, List.mem_range.2 ha, by rw [rotL_eq ha]⟩)
    · rw [List.mem_singleton] at hy
      subst hy
      refine .inr (List.mem_map.2 ⟨xs.length - 1 - a, List.mem_range.2 (by omega), ?_⟩)
      rw [rotL_eq (by rw [List.length_reverse]; omega), rev_turn (by omega), show xs.length - 1 - (xs.length - 1 - a) = a by omega]
theorem triS_next (xs : List Int) (m : Nat) : triS xs (m + 1) = triS xs m ++ [renL (turnL xs m false)] ++ [renL (turnL xs m true)] := by
  unfold triS
  rw [List.range_succ, List.map_append, List.flatten_append]
  simp
def triTo (xs : List Int) (m : Nat) : List (List Int) := (List.range m).map fun a => renL (xs.drop a ++ xs.take a)
theorem triTo_next (xs : List Int) (m : Nat) : triTo xs (m + 1) = triTo xs m ++ [renL (xs.drop m ++ xs.take m)] := by
  unfold triTo
  rw [List.range_succ, List.map_append]
  rfl
theorem turnL_mem {xs : List Int} {a : Nat} {b : Bool} {x : Int} (h : x ∈ turnL xs a b) : x ∈ xs := by
  unfold turnL at h
  obtain ⟨k, hk, rfl⟩ := List.mem_map.1 h
  have hk := List.mem_range.1 hk
  unfold turnX
  have key : ∀ m, m < xs.length → xs.getD m 0 ∈ xs := fun m hm => by
    rw [getD_at (List.getElem?_eq_getElem hm)]
    exact List.getElem_mem hm
  split
  · exact key _ (Nat.mod_lt _ (by omega))
  · exact key _ (Nat.mod_lt _ (by omega))
theorem turnL_len (xs : List Int) (a : Nat) (b : Bool) : (turnL xs a b).length = xs.length := by simp [turnL]
theorem renL_len (l : List Int) : (renL l).length ≤ l.length := renRow_len _ _
theorem leastL_len {b : List Int} {l : List (List Int)} {n : Nat} (hb : b.length ≤ n) (h : ∀ x ∈ l, x.length ≤ n) : (leastL b l).length ≤ n := by
  rcases leastL_mem l b with e | e
  · rw [e]; exact hb
  · exact h _ e
theorem leastOf_yes {b x : List Int} (h : cmpL x b < 0) : leastOf b x = x := by unfold leastOf; rw [if_pos h]
theorem leastOf_no {b x : List Int} (h : ¬ cmpL x b < 0) : leastOf b x = b := by unfold leastOf; rw [if_neg h]
end Go.Proofs.Ytpgpchklmdhldaa
