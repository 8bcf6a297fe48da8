/-
  Plain lemmas: new numbers for the crossings of a code. Conditions: none; nothing of the program is named here.
-/
import Derived.Test.YtnjojnnapdhijaaPos
namespace Go.Proofs.Ytnjojnnapdhijaa
open Go.RowKit
set_option linter.unusedVariables false

/-- the crossing of an element -/
def crI (x : Int) : Int := max x (-x) - 1
/-- one more crossing -/
def numStep (acc : List (Int × Int)) (c : Int) : List (Int × Int) := if acc.lookup c = none then acc ++ [(c, (acc.length : Int))] else acc
/-- the crossings of a list, each with its number, in the order in which they are met -/
def numsL (l : List Int) : List (Int × Int) := l.foldl (fun acc x => numStep acc (crI x)) []
/-- numbers within bounds -/
def NumOk (acc : List (Int × Int)) : Prop := ∀ c v, acc.lookup c = some v → 0 ≤ v ∧ v < (acc.length : Int)
theorem lookup_snoc2 {α : Type} (l : List (Int × α)) (x y : Int) (v : α) : (l ++ [(y, v)]).lookup x = (l.lookup x).or (if x = y then some v else none) := by
  rw [lookup_append]
  congr 1
  by_cases h : x = y
  · subst h; simp [List.lookup]
  · have : (x == y) = false := by simpa using h
    simp [List.lookup, this, h]
theorem numOk_snoc {acc : List (Int × Int)} (h : NumOk acc) (c : Int) : NumOk (acc ++ [(c, (acc.length : Int))]) := fun d v hv => by
  rw [lookup_snoc2] at hv
  rw [List.length_append, List.length_singleton]
  cases hd : acc.lookup d with
  | some u =>
    rw [hd] at hv
    injection hv with hv
    have := h d u hd
    omega
  | none =>
    rw [hd] at hv
    simp at hv
    omega
theorem numStep_ok {acc : List (Int × Int)} (h : NumOk acc) (c : Int) : NumOk (numStep acc c) := by
  unfold numStep
  split
  · exact numOk_snoc h c
  · exact h
theorem numStep_len (acc : List (Int × Int)) (c : Int) : (numStep acc c).length ≤ acc.length + 1 := by
  unfold numStep
  split
  · simp
  · omega
theorem numStep_keep {acc : List (Int × Int)} {c d v : Int} (h : acc.lookup d = some v) : (numStep acc c).lookup d = some v := by
  unfold numStep
  split
  · rw [lookup_snoc2, h]; rfl
  · exact h
theorem numStep_has (acc : List (Int × Int)) (c : Int) : ∃ v, (numStep acc c).lookup c = some v := by
  unfold numStep
  split
  · rename_i h
    exact ⟨_, by rw [lookup_snoc2, h, if_pos rfl]; rfl⟩
  · rename_i h
    cases hc : acc.lookup c with
    | none => exact absurd hc h
    | some v => exact ⟨v, rfl⟩
theorem numsL_snoc (l : List Int) (x : Int) : numsL (l ++ [x]) = numStep (numsL l) (crI x) := by
  unfold numsL
  rw [List.foldl_append]
  rfl
theorem numsL_nil : numsL [] = [] := rfl
theorem foldl_num_ok : ∀ (l : List Int) (acc : List (Int × Int)), NumOk acc → NumOk (l.foldl (fun acc x => numStep acc (crI x)) acc)
  | [], acc, h => h
  | x :: t, acc, h => foldl_num_ok t _ (numStep_ok h _)
theorem numsL_ok (l : List Int) : NumOk (numsL l) := foldl_num_ok l [] (fun c v h => by cases h)
theorem foldl_num_len : ∀ (l : List Int) (acc : List (Int × Int)), (l.foldl (fun acc x => numStep acc (crI x)) acc).length ≤ acc.length + l.length
  | [], acc => by simp
  | x :: t, acc => by
    have h1 := foldl_num_len t (numStep acc (crI x))
    have h2 := numStep_len acc (crI x)
    simp only [List.foldl_cons, List.length_cons]
    omega
theorem numsL_len (l : List Int) : (numsL l).length ≤ l.length := by
  have := foldl_num_len l []
  simpa [numsL] using this
theorem foldl_num_keep {d v : Int} : ∀ (l : List Int) (acc : List (Int × Int)), acc.lookup d = some v → (l.foldl (fun acc x => numStep acc (crI x)) acc).lookup d = some v
  | [], acc, h => h
  | x :: t, acc, h => foldl_num_keep t _ (numStep_keep h)
theorem numsL_keep {l m : List Int} {d v : Int} (h : (numsL l).lookup d = some v) : (numsL (l ++ m)).lookup d = some v := by
  unfold numsL
  rw [List.foldl_append]
  exact foldl_num_keep m _ h
/-- the new element -/
def renX (f : Int → Option Int) (x : Int) : Option Int := (f (crI x)).map fun v => if 0 < x then v + 1 else -v - 1
def renRow (f : Int → Option Int) (xs : List Int) : List Int := xs.filterMap (renX f)
def renC (f : Int → Option Int) (code : List (List Int)) : List (List Int) := code.map (renRow f)
def numF (l : List (Int × Int)) (c : Int) : Option Int := l.lookup c
def renameC (code : List (List Int)) : List (List Int) := renC (numF (numsL code.flatten)) code
theorem renRow_next {f : Int → Option Int} {xs : List Int} {k : Nat} {x : Int} (h : xs[k]? = some x) : renRow f (xs.take (k + 1)) = renRow f (xs.take k) ++ (renX f x).toList := by
  unfold renRow
  rw [List.take_add_one, h, List.filterMap_append]
  congr 1
theorem renRow_len (f : Int → Option Int) (xs : List Int) : (renRow f xs).length ≤ xs.length := List.length_filterMap_le _ _
theorem renC_next {f : Int → Option Int} {code : List (List Int)} {i : Nat} {xs : List Int} (h : code[i]? = some xs) : renC f (code.take (i + 1)) = renC f (code.take i) ++ [renRow f xs] := by
  unfold renC
  rw [List.take_add_one, h, List.map_append]
  rfl
theorem renX_up {f : Int → Option Int} {x v : Int} (h : f (crI x) = some v) (hx : 0 < x) : renX f x = some (v + 1) := by unfold renX; rw [h]; simp [hx]
theorem renX_down {f : Int → Option Int} {x v : Int} (h : f (crI x) = some v) (hx : ¬ 0 < x) : renX f x = some (-v - 1) := by unfold renX; rw [h]; simp [hx]
theorem renX_none {f : Int → Option Int} {x : Int} (h : f (crI x) = none) : renX f x = none := by unfold renX; rw [h]; rfl
theorem crI_eq (x : Int) : crI x = (if 0 < x then x else -x) - 1 := by unfold crI; split <;> omega
/-- the numbers as an array: 0 for a crossing that has none -/
def nameL (N : Nat) (acc : List (Int × Int)) : List Int := (List.range (N + 1)).map fun j : Nat => match acc.lookup ((j : Int) - 1) with
  | some v => v + 1
  | none => 0
theorem nameL_length (N : Nat) (acc : List (Int × Int)) : (nameL N acc).length = N + 1 := by simp [nameL]
theorem nameL_nil (N : Nat) : nameL N [] = List.replicate (N + 1) 0 := by
  apply List.ext_getElem?
  intro i
  simp only [nameL, List.getElem?_map, List.getElem?_replicate]
  by_cases h : i < N + 1
  · rw [List.getElem?_range h, if_pos h]; rfl
  · rw [List.getElem?_eq_none (by simp; omega), if_neg h]; rfl
theorem nameL_some {N j : Nat} {acc : List (Int × Int)} {v : Int} (hj : j < N + 1) (h : acc.lookup ((j : Int) - 1) = some v) : (nameL N acc)[j]? = some (v + 1) := by
  simp only [nameL, List.getElem?_map]
  rw [List.getElem?_range hj, Option.map_some, h]
theorem nameL_none {N j : Nat} {acc : List (Int × Int)} (hj : j < N + 1) (h : acc.lookup ((j : Int) - 1) = none) : (nameL N acc)[j]? = some 0 := by
  simp only [nameL, List.getElem?_map]
  rw [List.getElem?_range hj, Option.map_some, h]
theorem nameL_set {N j : Nat} {acc : List (Int × Int)} {v : Int} (hj : j < N + 1) (h : acc.lookup ((j : Int) - 1) = none) : (nameL N acc).set j (v + 1) = nameL N (acc ++ [((j : Int) - 1, v)]) := by
  apply List.ext_getElem?
  intro i
  by_cases hij : j = i
  · subst hij
    rw [List.getElem?_set_self (by rw [nameL_length]; exact hj), nameL_some (v := v) hj]
    rw [lookup_snoc2, h, if_pos rfl]
    rfl
  · rw [List.getElem?_set_ne hij]
    simp only [nameL, List.getElem?_map]
    by_cases h2 : i < N + 1
    · rw [List.getElem?_range h2, Option.map_some, Option.map_some, lookup_snoc2, if_neg (by omega)]
      simp
    · rw [List.getElem?_eq_none (by simp; omega)]
      rfl
/-- the numbers of the crossings that stay -/
def numsW (g : Nat → Bool) : Nat → List (Int × Int)
  | 0 => []
  | n + 1 => if g n = true then numsW g n else numsW g n ++ [((n : Int), ((numsW g n).length : Int))]
theorem numsW_fresh (g : Nat → Bool) : ∀ (n : Nat) (c : Int), (n : Int) ≤ c → (numsW g n).lookup c = none
  | 0, c, h => rfl
  | n + 1, c, h => by
    have ih := numsW_fresh g n c (by omega)
    unfold numsW
    split
    · exact ih
    · rw [lookup_snoc2, ih, if_neg (by omega)]; rfl
theorem numsW_ok (g : Nat → Bool) : ∀ n, NumOk (numsW g n)
  | 0 => fun c v h => by cases h
  | n + 1 => by
    unfold numsW
    split
    · exact numsW_ok g n
    · exact numOk_snoc (numsW_ok g n) _
theorem numsW_len (g : Nat → Bool) : ∀ n, (numsW g n).length ≤ n
  | 0 => Nat.le_refl _
  | n + 1 => by
    have := numsW_len g n
    unfold numsW
    split
    · omega
    · simp; omega
theorem numsW_yes {g : Nat → Bool} {n : Nat} (h : g n = true) : numsW g (n + 1) = numsW g n := by rw [numsW, if_pos h]
theorem numsW_no {g : Nat → Bool} {n : Nat} (h : g n = false) : numsW g (n + 1) = numsW g n ++ [((n : Int), ((numsW g n).length : Int))] := by rw [numsW, if_neg (by simp [h])]
def withoutC (g : Nat → Bool) (code : List (List Int)) : List (List Int) := renC (numF (numsW g (sumLen code / 2))) code
theorem renC_all {f : Int → Option Int} {code : List (List Int)} {i : Nat} (h : code.length ≤ i) : renC f (code.take i) = renC f code := by rw [List.take_of_length_le h]
theorem renC_length (f : Int → Option Int) (code : List (List Int)) : (renC f code).length = code.length := by simp [renC]
theorem renC_sum (f : Int → Option Int) (code : List (List Int)) : sumLen (renC f code) ≤ sumLen code := by
  unfold sumLen renC
  rw [List.map_map]
  induction code with
  | nil => simp
  | cons x t ih =>
    have := renRow_len f x
    simp only [List.map_cons, List.sum_cons, Function.comp] at *
    omega
end Go.Proofs.Ytnjojnnapdhijaa
