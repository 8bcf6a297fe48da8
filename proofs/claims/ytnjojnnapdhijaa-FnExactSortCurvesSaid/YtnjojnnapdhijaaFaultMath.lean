/-
  Plain lemmas: the first fault of a code; elements that are met again after an odd number of others. Conditions: none; nothing of the program is named here.
-/
import Derived.Test.YtnjojnnapdhijaaPos
namespace Go.Proofs.Ytnjojnnapdhijaa
open Go.RowKit
set_option linter.unusedVariables false

/-- Each element stands just where it stands first. -/
def Apart (code : List (List Int)) : Prop := ∀ (i k : Nat) (xs : List Int) (x : Int), code[i]? = some xs → xs[k]? = some x → placeOf code x = some ((i : Int), (k : Int))
theorem apart_of_nodup {code : List (List Int)} (h : code.flatten.Nodup) : Apart code := fun i k xs x h1 h2 => by
  refine placeOf_first h1 h2 (fun ho => ?_)
  obtain ⟨t, e⟩ := upTo_prefix h1 h2
  rw [e, List.nodup_append] at h
  exact h.2.2 x ho x (by simp) rfl
def plc (code : List (List Int)) (x : Int) : Int × Int := (placeOf code x).getD (0, 0)
/-- what isOdd looks at -/
def oddB (p q : Int × Int) : Bool := p.1 == q.1 && decide (p.2 < q.2) && ((q.2 - p.2 - 1) % 2 == 1)
def oddX (code : List (List Int)) (x : Int) : Bool := oddB (plc code x) (plc code (-x))
/-- element k of a row is met again after an odd number of others -/
def oddAt (xs : List Int) (k j : Nat) : Bool := decide (k < j) && (xs.getD j 0 == -(xs.getD k 0)) && decide ((j - k) % 2 = 0)
def oddK (xs : List Int) (k : Nat) : Bool := (List.range xs.length).any (oddAt xs k)
theorem oddK_of {xs : List Int} {k j : Nat} (hj : j < xs.length) (h : oddAt xs k j = true) : oddK xs k = true := by
  unfold oddK
  rw [List.any_eq_true]
  exact ⟨j, by simpa using hj, h⟩
theorem oddK_no {xs : List Int} {k : Nat} (h : ∀ j, j < xs.length → oddAt xs k j = false) : oddK xs k = false := by
  unfold oddK
  rw [List.any_eq_false]
  intro j hj
  rw [h j (by simpa using hj)]
  simp
theorem getD_at {xs : List Int} {k : Nat} {x : Int} (h : xs[k]? = some x) : xs.getD k 0 = x := by rw [List.getD_eq_getElem?_getD, h]; rfl
theorem oddX_eq {code : List (List Int)} (ha : Apart code) {i k : Nat} {xs : List Int} {x : Int} (h : code[i]? = some xs) (hx : xs[k]? = some x) : oddX code x = oddK xs k := by
  have h1 : plc code x = ((i : Int), (k : Int)) := by unfold plc; rw [ha i k xs x h hx]; rfl
  have hg := getD_at hx
  cases hk : oddK xs k
  · unfold oddX
    rw [h1]
    cases ho : oddB ((i : Int), (k : Int)) (plc code (-x))
    · rfl
    · exfalso
      unfold oddB at ho
      simp only [Bool.and_eq_true, beq_iff_eq, decide_eq_true_eq] at ho
      obtain ⟨⟨e1, e2⟩, e3⟩ := ho
      cases hp : placeOf code (-x) with
      | none =>
        unfold plc at e2
        rw [hp] at e2
        simp at e2
        omega
      | some p =>
        obtain ⟨a, b⟩ := p
        obtain ⟨an, bn, ys, q1, q2, q3, q4⟩ := placeOf_some hp
        unfold plc at e1 e2 e3
        rw [hp] at e1 e2 e3
        simp only [Option.getD_some] at e1 e2 e3
        have hai : an = i := by omega
        subst hai
        rw [h] at q3
        injection q3 with q3
        subst q3
        have hb := (List.getElem?_eq_some_iff.1 q4).1
        have : oddK xs k = true := oddK_of hb (by
          unfold oddAt
          rw [hg, getD_at q4]
          simp only [Bool.and_eq_true, decide_eq_true_eq, beq_self_eq_true, and_true]
          omega)
        rw [hk] at this
        cases this
  · unfold oddK at hk
    rw [List.any_eq_true] at hk
    obtain ⟨j, hj, ho⟩ := hk
    have hj' : j < xs.length := by simpa using hj
    unfold oddAt at ho
    simp only [Bool.and_eq_true, beq_iff_eq, decide_eq_true_eq] at ho
    obtain ⟨⟨e1, e2⟩, e3⟩ := ho
    have hxj : xs[j]? = some xs[j] := List.getElem?_eq_getElem hj'
    rw [hg, getD_at hxj] at e2
    have h2 : plc code (-x) = ((i : Int), (j : Int)) := by
      unfold plc
      rw [← e2, ha i j xs _ h hxj]
      rfl
    unfold oddX oddB
    rw [h1, h2]
    simp only [Bool.and_eq_true, beq_iff_eq, decide_eq_true_eq, true_and]
    omega

def manyP (code : List (List Int)) (c : Nat) : Bool := decide (240 < sumLen (code.take (c + 1)))
def halfC (code : List (List Int)) : Int := ((sumLen code : Int) + 1) / 2
def badP (code : List (List Int)) (q : Int × Int × Int) : Bool := q.1 == 0 || !inB q.1 (-halfC code) (halfC code) || placeOf code q.1 != some q.2
def badKind (code : List (List Int)) (q : Int × Int × Int) : Int := if q.1 = 0 then 2 else if inB q.1 (-halfC code) (halfC code) = false then 3 else 4
def absentP (code : List (List Int)) (q : Int × Int × Int) : Bool := placeOf code (-q.1) == none
def oddP (code : List (List Int)) (q : Int × Int × Int) : Bool := oddX code q.1
/-- the first fault of a code -/
def faultC (code : List (List Int)) : Int × Int × Int :=
  if 40 < code.length then (1, 0, 0) else
  match (List.range code.length).find? (manyP code) with
  | some c => (1, (c : Int), 0)
  | none =>
    match (posC code).find? (badP code) with
    | some q => (badKind code q, q.2.1, q.2.2)
    | none =>
      match (posC code).find? (absentP code) with
      | some q => (5, q.2.1, q.2.2)
      | none =>
        match (posC code).find? (oddP code) with
        | some q => (6, q.2.1, q.2.2)
        | none => (0, 0, 0)
theorem fault_long {code : List (List Int)} (h : 40 < code.length) : faultC code = (1, 0, 0) := by unfold faultC; rw [if_pos h]
theorem range_find_hit {p : Nat → Bool} {n k : Nat} (hk : k < n) (h : ∀ j, j < k → p j = false) (hp : p k = true) : (List.range n).find? p = some k := by
  rw [List.find?_range_eq_some]
  exact ⟨hp, by simpa using hk, fun j hj => by simp [h j hj]⟩
theorem range_find_none {p : Nat → Bool} {n : Nat} (h : ∀ j, j < n → p j = false) : (List.range n).find? p = none := by
  rw [List.find?_eq_none]
  intro j hj
  simp [h j (by simpa using hj)]
theorem fault_many {code : List (List Int)} {c : Nat} (h : ¬ 40 < code.length) (hc : c < code.length) (h1 : ∀ j, j < c → manyP code j = false) (h2 : manyP code c = true) : faultC code = (1, (c : Int), 0) := by
  unfold faultC
  rw [if_neg h, range_find_hit hc h1 h2]
theorem fault_bad {code : List (List Int)} {q : Int × Int × Int} (h : ¬ 40 < code.length) (h1 : ∀ j, j < code.length → manyP code j = false) (h2 : (posC code).find? (badP code) = some q) : faultC code = (badKind code q, q.2.1, q.2.2) := by
  unfold faultC
  rw [if_neg h, range_find_none h1, h2]
theorem fault_absent {code : List (List Int)} {q : Int × Int × Int} (h : ¬ 40 < code.length) (h1 : ∀ j, j < code.length → manyP code j = false) (h2 : (posC code).find? (badP code) = none) (h3 : (posC code).find? (absentP code) = some q) : faultC code = (5, q.2.1, q.2.2) := by
  unfold faultC
  rw [if_neg h, range_find_none h1, h2]
  dsimp only
  rw [h3]
theorem fault_odd {code : List (List Int)} {q : Int × Int × Int} (h : ¬ 40 < code.length) (h1 : ∀ j, j < code.length → manyP code j = false) (h2 : (posC code).find? (badP code) = none) (h3 : (posC code).find? (absentP code) = none) (h4 : (posC code).find? (oddP code) = some q) : faultC code = (6, q.2.1, q.2.2) := by
  unfold faultC
  rw [if_neg h, range_find_none h1, h2]
  dsimp only
  rw [h3]
  dsimp only
  rw [h4]
theorem fault_none {code : List (List Int)} (h : ¬ 40 < code.length) (h1 : ∀ j, j < code.length → manyP code j = false) (h2 : (posC code).find? (badP code) = none) (h3 : (posC code).find? (absentP code) = none) (h4 : (posC code).find? (oddP code) = none) : faultC code = (0, 0, 0) := by
  unfold faultC
  rw [if_neg h, range_find_none h1, h2]
  dsimp only
  rw [h3]
  dsimp only
  rw [h4]
theorem many_none {code : List (List Int)} (h : sumLen code ≤ 240) : ∀ j, j < code.length → manyP code j = false := fun j _ => by
  have := sumLen_take_le code (j + 1)
  unfold manyP
  exact decide_eq_false (by omega)
theorem apart_of_bad {code : List (List Int)} (h : (posC code).find? (badP code) = none) : Apart code := fun i k xs x h1 h2 => by
  rw [List.find?_eq_none] at h
  obtain ⟨t, ht⟩ := posC_split h1 h2
  have := h (x, (i : Int), (k : Int)) (by rw [ht]; simp)
  unfold badP at this
  simp at this
  exact this.2
theorem good_of_bad {code : List (List Int)} (h : (posC code).find? (badP code) = none) {i k : Nat} {xs : List Int} {x : Int} (h1 : code[i]? = some xs) (h2 : xs[k]? = some x) : x ≠ 0 ∧ inB x (-halfC code) (halfC code) = true := by
  rw [List.find?_eq_none] at h
  obtain ⟨t, ht⟩ := posC_split h1 h2
  have := h (x, (i : Int), (k : Int)) (by rw [ht]; simp)
  unfold badP at this
  simp at this
  exact this.1
/-- which numbers have been met -/
def flagL (n : Nat) (g : Nat → Int) (l : List Int) : List Bool := (List.range (n + 1)).map fun j : Nat => decide (g j ∈ l)
theorem flagL_length (n : Nat) (g : Nat → Int) (l : List Int) : (flagL n g l).length = n + 1 := by simp [flagL]
theorem flagL_nil (n : Nat) (g : Nat → Int) : flagL n g [] = List.replicate (n + 1) false := by
  apply List.ext_getElem?
  intro i
  simp only [flagL, List.getElem?_map, List.getElem?_replicate]
  by_cases h : i < n + 1
  · rw [List.getElem?_range h, if_pos h]
    simp
  · rw [List.getElem?_eq_none (by simp; omega), if_neg h]
    rfl
theorem flagL_at {n m : Nat} {g : Nat → Int} {l : List Int} (hx : m < n + 1) : (flagL n g l)[m]? = some (decide (g m ∈ l)) := by
  simp only [flagL, List.getElem?_map]
  rw [List.getElem?_range hx, Option.map_some]
theorem flagL_set {n m : Nat} {g : Nat → Int} {l : List Int} {x : Int} (hg : ∀ a b, g a = g b → a = b) (hm : x = g m) (hx : m < n + 1) : (flagL n g l).set m true = flagL n g (l ++ [x]) := by
  apply List.ext_getElem?
  intro i
  by_cases h : m = i
  · subst h
    rw [List.getElem?_set_self (by rw [flagL_length]; exact hx), flagL_at hx]
    simp [hm]
  · rw [List.getElem?_set_ne h]
    simp only [flagL, List.getElem?_map]
    by_cases h2 : i < n + 1
    · rw [List.getElem?_range h2]
      simp only [Option.map_some, Option.some.injEq, decide_eq_decide, List.mem_append, List.mem_singleton]
      constructor
      · exact .inl
      · intro h3
        rcases h3 with h3 | h3
        · exact h3
        · exact absurd (hg _ _ (h3.trans hm)).symm h
    · rw [List.getElem?_eq_none (by simp; omega)]
      rfl
theorem flagL_other {n : Nat} {g : Nat → Int} {l : List Int} {x : Int} (h : ∀ j, g j ≠ x) : flagL n g (l ++ [x]) = flagL n g l := by
  unfold flagL
  apply List.map_congr_left
  intro j _
  simp [h j]
def posG (j : Nat) : Int := (j : Int)
def negG (j : Nat) : Int := -(j : Int)
theorem posG_inj (a b : Nat) (h : posG a = posG b) : a = b := by unfold posG at h; omega
theorem negG_inj (a b : Nat) (h : negG a = negG b) : a = b := by unfold negG at h; omega
end Go.Proofs.Ytnjojnnapdhijaa
