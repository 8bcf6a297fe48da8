/-
  Plain law: what the functions over polynomials compute, on lists of ints. No program is named here. Conditions: none.
-/
import Derived.WalkKit
namespace Go.Proofs.YtjlifbdaieblpaaGreat
open Go.RowKit
set_option linter.unusedVariables false

/-- without the zeros at the head -/
def dropZ : List Int → List Int
  | [] => []
  | x :: t => if x = 0 then dropZ t else x :: t
/-- without the zeros at the end -/
def rdropZ : List Int → List Int
  | [] => []
  | x :: t => if rdropZ t = [] then (if x = 0 then [] else [x]) else x :: rdropZ t

theorem dropZ_le (xs : List Int) : (dropZ xs).length ≤ xs.length := by
  induction xs with
  | nil => simp [dropZ]
  | cons x t ih => unfold dropZ; split <;> simp <;> omega
theorem rdropZ_le (xs : List Int) : (rdropZ xs).length ≤ xs.length := by
  induction xs with
  | nil => simp [rdropZ]
  | cons x t ih => unfold rdropZ; split <;> (try split) <;> simp <;> omega
theorem rdropZ_zero (xs : List Int) : rdropZ (xs ++ [0]) = rdropZ xs := by
  induction xs with
  | nil => simp [rdropZ]
  | cons x t ih => simp only [List.cons_append, rdropZ, ih]
theorem rdropZ_last (xs : List Int) (x : Int) (hx : x ≠ 0) : rdropZ (xs ++ [x]) = xs ++ [x] := by
  induction xs with
  | nil => simp [rdropZ, hx]
  | cons y t ih =>
    have hne : t ++ [x] ≠ [] := by simp
    simp only [List.cons_append, rdropZ, ih]
    rw [if_neg hne]
theorem rdropZ_step {xs : List Int} {m : Nat} (hm : 0 < m) (hx : xs[m - 1]? = some 0) : rdropZ (xs.take m) = rdropZ (xs.take (m - 1)) := by
  have : xs.take m = xs.take (m - 1) ++ [0] := by
    have h := List.take_add_one (l := xs) (i := m - 1)
    rw [hx] at h
    rw [show m = m - 1 + 1 from by omega]
    simpa using h
  rw [this, rdropZ_zero]
theorem rdropZ_stop {xs : List Int} {m : Nat} {x : Int} (hm : 0 < m) (hx : xs[m - 1]? = some x) (h0 : x ≠ 0) : rdropZ (xs.take m) = xs.take m := by
  have : xs.take m = xs.take (m - 1) ++ [x] := by
    have h := List.take_add_one (l := xs) (i := m - 1)
    rw [hx] at h
    rw [show m = m - 1 + 1 from by omega]
    simpa using h
  rw [this, rdropZ_last _ _ h0]
theorem dropZ_step {xs : List Int} {j : Nat} (hx : xs[j]? = some 0) : dropZ (xs.drop j) = dropZ (xs.drop (j + 1)) := by
  have hj : j < xs.length := (List.getElem?_eq_some_iff.1 hx).1
  rw [List.drop_eq_getElem_cons hj]
  have h0 : xs[j] = 0 := by rw [List.getElem?_eq_getElem hj] at hx; injection hx
  simp [dropZ, h0]
theorem dropZ_stop {xs : List Int} {j : Nat} {x : Int} (hx : xs[j]? = some x) (h0 : x ≠ 0) : dropZ (xs.drop j) = xs.drop j := by
  have hj : j < xs.length := (List.getElem?_eq_some_iff.1 hx).1
  rw [List.drop_eq_getElem_cons hj]
  have hv : xs[j] = x := by rw [List.getElem?_eq_getElem hj] at hx; injection hx
  rw [hv]
  simp [dropZ, h0]

/-- a polynomial without needless coefficients: as the reference makes it, and as the program does -/
def trimS (low : Int) (xs : List Int) : Int × List Int :=
  if dropZ (rdropZ xs) = [] then (0, []) else (low + ((rdropZ xs).length - (dropZ (rdropZ xs)).length : Nat), dropZ (rdropZ xs))
def trimI (low : Int) (xs : List Int) : Int × List Int :=
  if rdropZ (dropZ xs) = [] then (0, []) else (low + (xs.length - (dropZ xs).length : Nat), rdropZ (dropZ xs))
theorem trimS_zero (low : Int) (t : List Int) : trimS low (0 :: t) = trimS (low + 1) t := by
  unfold trimS
  by_cases h : rdropZ t = []
  · have h1 : rdropZ (0 :: t) = [] := by simp [rdropZ, h]
    rw [h1, h]
    simp [dropZ]
  · have h1 : rdropZ (0 :: t) = 0 :: rdropZ t := by simp [rdropZ, h]
    have h2 : dropZ (0 :: rdropZ t) = dropZ (rdropZ t) := by simp [dropZ]
    rw [h1, h2]
    have := dropZ_le (rdropZ t)
    split
    · rfl
    · congr 1
      simp only [List.length_cons]
      omega
theorem trimI_zero (low : Int) (t : List Int) : trimI low (0 :: t) = trimI (low + 1) t := by
  unfold trimI
  have h2 : dropZ (0 :: t) = dropZ t := by simp [dropZ]
  rw [h2]
  have := dropZ_le t
  split
  · rfl
  · congr 1
    simp only [List.length_cons]
    omega
theorem rdropZ_cons_ne {x : Int} {t : List Int} (hx : x ≠ 0) : ∃ r, rdropZ (x :: t) = x :: r := by
  by_cases h : rdropZ t = []
  · exact ⟨[], by simp [rdropZ, h, hx]⟩
  · exact ⟨rdropZ t, by simp [rdropZ, h]⟩
theorem trim_eq (low : Int) (xs : List Int) : trimS low xs = trimI low xs := by
  induction xs generalizing low with
  | nil => rfl
  | cons x t ih =>
    by_cases hx : x = 0
    · subst hx
      rw [trimS_zero, trimI_zero, ih]
    · obtain ⟨r, hr⟩ := rdropZ_cons_ne (t := t) hx
      have hd : dropZ (x :: t) = x :: t := by simp [dropZ, hx]
      have hd2 : dropZ (x :: r) = x :: r := by simp [dropZ, hx]
      unfold trimS trimI
      rw [hr, hd, hr, hd2]
      simp
theorem trimS_le (low : Int) (xs : List Int) : (trimS low xs).2.length ≤ xs.length := by
  unfold trimS
  split
  · simp
  · exact Nat.le_trans (dropZ_le _) (rdropZ_le _)

/-- xs added to out, from place off on, as the machine adds -/
def addAt (out : List Int) (off : Nat) (xs : List Int) : List Int :=
  out.mapIdx fun j y => if off ≤ j ∧ j - off < xs.length then wrap64 (y + xs.getD (j - off) 0) else y
theorem addAt_length (out : List Int) (off : Nat) (xs : List Int) : (addAt out off xs).length = out.length := by simp [addAt]
theorem addAt_nil (out : List Int) (off : Nat) : addAt out off [] = out := by
  apply List.ext_getElem?
  intro j
  simp [addAt]
theorem addAt_at (out : List Int) (off : Nat) (xs : List Int) (j : Nat) : (addAt out off xs)[j]? = (out[j]?).map fun y => if off ≤ j ∧ j - off < xs.length then wrap64 (y + xs.getD (j - off) 0) else y := by
  simp [addAt]
theorem addAt_next {out : List Int} {off : Nat} {xs : List Int} {i : Nat} {x y : Int} (hx : xs[i]? = some x) (hy : (addAt out off (xs.take i))[off + i]? = some y) :
    addAt out off (xs.take (i + 1)) = (addAt out off (xs.take i)).set (off + i) (wrap64 (y + x)) := by
  have hi : i < xs.length := (List.getElem?_eq_some_iff.1 hx).1
  have hoi : off + i < out.length := by
    have := (List.getElem?_eq_some_iff.1 hy).1
    rwa [addAt_length] at this
  apply List.ext_getElem?
  intro j
  rw [addAt_at]
  by_cases hj : j = off + i
  · subst hj
    rw [List.getElem?_set_self (by rw [addAt_length]; exact hoi)]
    rw [addAt_at, List.getElem?_eq_getElem hoi] at hy
    simp only [Option.map_some] at hy
    injection hy with hy
    rw [if_neg (by simp; omega)] at hy
    rw [List.getElem?_eq_getElem hoi, Option.map_some, hy]
    rw [if_pos ⟨by omega, by rw [List.length_take]; omega⟩, show off + i - off = i from by omega]
    have hg : (xs.take (i + 1)).getD i 0 = x := by
      rw [List.getD_eq_getElem?_getD, List.getElem?_take, if_pos (by omega), hx]; rfl
    rw [hg]
  · rw [List.getElem?_set_ne (by omega), addAt_at]
    congr 1
    funext y
    have e : (off ≤ j ∧ j - off < (xs.take (i + 1)).length) ↔ (off ≤ j ∧ j - off < (xs.take i).length) := by
      rw [List.length_take, List.length_take]
      omega
    by_cases hc : off ≤ j ∧ j - off < (xs.take i).length
    · rw [if_pos (e.2 hc), if_pos hc]
      have hji : j - off < i := by have := hc.2; rw [List.length_take] at this; omega
      congr 2
      simp only [List.getD_eq_getElem?_getD]
      rw [List.getElem?_take, List.getElem?_take, if_pos (by omega), if_pos hji]
    · rw [if_neg (fun h => hc (e.1 h)), if_neg hc]

/-- the sum before it is trimmed, and the sum -/
def lowOf (l0 l1 : Int) : Int := if l0 < l1 then l0 else l1
def highOf (h0 h1 : Int) : Int := if h1 < h0 then h0 else h1
def addRaw (l0 : Int) (xs0 : List Int) (l1 : Int) (xs1 : List Int) : List Int :=
  addAt (addAt (List.replicate (highOf (l0 + xs0.length) (l1 + xs1.length) - lowOf l0 l1).toNat 0) (l0 - lowOf l0 l1).toNat xs0) (l1 - lowOf l0 l1).toNat xs1
def addP (l0 : Int) (xs0 : List Int) (l1 : Int) (xs1 : List Int) : Int × List Int :=
  if xs0.length = 0 then trimS l1 xs1 else if xs1.length = 0 then trimS l0 xs0 else trimS (lowOf l0 l1) (addRaw l0 xs0 l1 xs1)

/-- the product before it is trimmed, after i rows -/
def rowW (x : Int) (ys : List Int) : List Int := ys.map fun y => wrap64 (x * y)
def mulTo (n : Nat) (xs ys : List Int) : Nat → List Int
  | 0 => List.replicate n 0
  | i + 1 => addAt (mulTo n xs ys i) i (rowW (xs.getD i 0) ys)
theorem mulTo_length (n : Nat) (xs ys : List Int) (i : Nat) : (mulTo n xs ys i).length = n := by
  induction i with
  | zero => simp [mulTo]
  | succ i ih => simp [mulTo, addAt_length, ih]
def mulP (l0 : Int) (xs0 : List Int) (l1 : Int) (xs1 : List Int) : Int × List Int :=
  if xs0.length = 0 ∨ xs1.length = 0 then (0, []) else trimS (l0 + l1) (mulTo (xs0.length + xs1.length - 1) xs0 xs1 xs0.length)
def shiftP (l : Int) (xs : List Int) (power times : Int) : Int × List Int := trimS (l + power) (rowW times xs)
end Go.Proofs.YtjlifbdaieblpaaGreat
