/-
  Plain lemmas: valid codes. Conditions: none; nothing of the program is named here.
-/
import Derived.Test.YtnjojnnapdhijaaCode1
namespace Go.Proofs.Ytnjojnnapdhijaa
open Go.RowKit
set_option linter.unusedVariables false

/-- the elements so far are good: apart, not zero, and at most n -/
def Good (n : Nat) (l : List Int) : Prop := l.Nodup ∧ ∀ x ∈ l, x ≠ 0 ∧ -(n : Int) ≤ x ∧ x ≤ n
instance (n : Nat) (l : List Int) : Decidable (Good n l) := by unfold Good; infer_instance
def VCode (code : List (List Int)) : Prop := code.length ≤ 40 ∧ sumLen code % 2 = 0 ∧ sumLen code / 2 ≤ 120 ∧ Good (sumLen code / 2) code.flatten
instance (code : List (List Int)) : Decidable (VCode code) := by unfold VCode; infer_instance
def validC (code : List (List Int)) : Bool := decide (VCode code)
theorem Good.nil (n : Nat) : Good n [] := ⟨List.nodup_nil, fun x h => by simp at h⟩
theorem Good.snoc {n : Nat} {l : List Int} {x : Int} (h : Good n l) (h0 : x ≠ 0) (h1 : -(n : Int) ≤ x) (h2 : x ≤ n) (h3 : x ∉ l) : Good n (l ++ [x]) := by
  refine ⟨?_, fun y hy => ?_⟩
  · rw [List.nodup_append]
    refine ⟨h.1, by simp, fun a ha b hb => ?_⟩
    simp at hb
    subst hb
    intro e
    exact h3 (e ▸ ha)
  · rw [List.mem_append, List.mem_singleton] at hy
    rcases hy with hy | hy
    · exact h.2 y hy
    · subst hy
      exact ⟨h0, h1, h2⟩
/-- the elements up to row i, index k -/
def upTo (code : List (List Int)) (i k : Nat) : List Int := (code.take i).flatten ++ (code.getD i []).take k
theorem upTo_zero (code : List (List Int)) : upTo code 0 0 = [] := by simp [upTo]
theorem getD_row {code : List (List Int)} {i : Nat} {xs : List Int} (h : code[i]? = some xs) : code.getD i [] = xs := by
  rw [List.getD_eq_getElem?_getD, h]; rfl
theorem upTo_next {code : List (List Int)} {i k : Nat} {xs : List Int} {x : Int} (h : code[i]? = some xs) (hx : xs[k]? = some x) : upTo code i (k + 1) = upTo code i k ++ [x] := by
  unfold upTo
  rw [getD_row h, List.take_add_one, hx, List.append_assoc]
  rfl
theorem upTo_row {code : List (List Int)} {i k : Nat} {xs : List Int} (h : code[i]? = some xs) (hk : xs.length ≤ k) : upTo code i k = upTo code (i + 1) 0 := by
  unfold upTo
  rw [getD_row h, List.take_of_length_le hk, List.take_add_one, h, List.flatten_append]
  simp
theorem upTo_all {code : List (List Int)} {i : Nat} (h : code.length ≤ i) : upTo code i 0 = code.flatten := by
  unfold upTo
  rw [List.take_of_length_le h]
  simp
theorem upTo_prefix {code : List (List Int)} {i k : Nat} {xs : List Int} {x : Int} (h : code[i]? = some xs) (hx : xs[k]? = some x) : ∃ t, code.flatten = upTo code i k ++ x :: t := by
  have hi := (List.getElem?_eq_some_iff.1 h).1
  have hk := (List.getElem?_eq_some_iff.1 hx).1
  refine ⟨xs.drop (k + 1) ++ (code.drop (i + 1)).flatten, ?_⟩
  unfold upTo
  rw [getD_row h]
  have e1 : code = code.take i ++ xs :: code.drop (i + 1) := by
    have e2 := (List.take_append_drop i code).symm
    rw [List.drop_eq_getElem_cons hi] at e2
    rw [List.getElem?_eq_getElem hi] at h
    injection h with h
    rw [h] at e2
    exact e2
  have e3 : xs = xs.take k ++ x :: xs.drop (k + 1) := by
    have e2 := (List.take_append_drop k xs).symm
    rw [List.drop_eq_getElem_cons hk] at e2
    rw [List.getElem?_eq_getElem hk] at hx
    injection hx with hx
    rw [hx] at e2
    exact e2
  have e4 : code.flatten = (code.take i).flatten ++ (xs ++ (code.drop (i + 1)).flatten) := by
    conv => lhs; rw [e1]
    rw [List.flatten_append, List.flatten_cons]
  rw [e4]
  conv => lhs; rw [e3]
  simp
theorem bad_range {code : List (List Int)} {n i k : Nat} {xs : List Int} {x : Int} (h : code[i]? = some xs) (hx : xs[k]? = some x) (hb : x < -(n : Int) ∨ (n : Int) < x ∨ x = 0) : ¬ Good n code.flatten := fun hg => by
  obtain ⟨t, e⟩ := upTo_prefix h hx
  have := hg.2 x (by rw [e]; simp)
  omega
theorem bad_twice {code : List (List Int)} {n i k : Nat} {xs : List Int} {x : Int} (h : code[i]? = some xs) (hx : xs[k]? = some x) (hb : x ∈ upTo code i k) : ¬ Good n code.flatten := fun hg => by
  obtain ⟨t, e⟩ := upTo_prefix h hx
  have hn := hg.1
  rw [e, List.nodup_append] at hn
  exact hn.2.2 x hb x (by simp) rfl
/-- which numbers have been met -/
def seenL (n : Nat) (l : List Int) : List Bool := (List.range (2 * n + 1)).map fun j : Nat => decide ((j : Int) - (n : Int) ∈ l)
theorem seenL_length (n : Nat) (l : List Int) : (seenL n l).length = 2 * n + 1 := by simp [seenL]
theorem seenL_nil (n : Nat) : seenL n [] = List.replicate (2 * n + 1) false := by
  apply List.ext_getElem?
  intro i
  simp only [seenL, List.getElem?_map, List.getElem?_replicate]
  by_cases h : i < 2 * n + 1
  · rw [List.getElem?_range h, if_pos h]
    simp
  · rw [List.getElem?_eq_none (by simp; omega), if_neg h]
    rfl
theorem seenL_at {n m : Nat} {l : List Int} {x : Int} (hm : x + (n : Int) = (m : Int)) (hx : m < 2 * n + 1) : (seenL n l)[m]? = some (decide (x ∈ l)) := by
  simp only [seenL, List.getElem?_map]
  rw [List.getElem?_range hx, Option.map_some, show (m : Int) - (n : Int) = x by omega]
theorem seenL_set {n m : Nat} {l : List Int} {x : Int} (hm : x + (n : Int) = (m : Int)) (hx : m < 2 * n + 1) : (seenL n l).set m true = seenL n (l ++ [x]) := by
  apply List.ext_getElem?
  intro i
  by_cases h : m = i
  · subst h
    rw [List.getElem?_set_self (by rw [seenL_length]; exact hx), seenL_at hm hx]
    simp
  · rw [List.getElem?_set_ne h]
    simp only [seenL, List.getElem?_map]
    by_cases h2 : i < 2 * n + 1
    · rw [List.getElem?_range h2]
      simp only [Option.map_some, Option.some.injEq, decide_eq_decide, List.mem_append, List.mem_singleton]
      constructor
      · exact .inl
      · intro h3
        rcases h3 with h3 | h3
        · exact h3
        · omega
    · rw [List.getElem?_eq_none (by simp; omega)]
      rfl
theorem validC_long {code : List (List Int)} (h : 40 < code.length) : validC code = false := decide_eq_false fun hv => by have := hv.1; omega
theorem validC_odd {code : List (List Int)} (h : sumLen code % 2 ≠ 0) : validC code = false := decide_eq_false fun hv => h hv.2.1
theorem validC_many {code : List (List Int)} (h : 120 < sumLen code / 2) : validC code = false := decide_eq_false fun hv => by have := hv.2.2.1; omega
theorem validC_good {code : List (List Int)} {N : Nat} (h1 : code.length ≤ 40) (h2 : sumLen code = 2 * N) (h3 : N ≤ 120) : validC code = decide (Good N code.flatten) := by
  have e : sumLen code / 2 = N := by omega
  apply decide_eq_decide.2
  constructor
  · intro h
    have := h.2.2.2
    rwa [e] at this
  · intro h
    refine ⟨h1, by omega, by omega, ?_⟩
    rw [e]
    exact h
theorem validC_true {code : List (List Int)} (h : validC code = true) : ∃ N, code.length ≤ 40 ∧ sumLen code = 2 * N ∧ N ≤ 120 ∧ Good N code.flatten := by
  obtain ⟨h1, h2, h3, h4⟩ := of_decide_eq_true h
  exact ⟨sumLen code / 2, h1, by omega, h3, h4⟩
theorem flatten_len (code : List (List Int)) : code.flatten.length = sumLen code := by
  unfold sumLen
  rw [List.length_flatten]
end Go.Proofs.Ytnjojnnapdhijaa
