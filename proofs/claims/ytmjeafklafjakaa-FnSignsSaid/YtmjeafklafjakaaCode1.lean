/-
  Contracts of the laws' helpers over slices of slices of ints: copy, size, equality, marks. Conditions: the lengths are far below the machine's.
-/
import Derived.Test.YtmjeafklafjakaaCodeMem
import Derived.Test.YtmjeafklafjakaaPolyOk
namespace Go.Proofs.Ytmjeafklafjakaa
open Go.RowKit
set_option linter.unusedVariables false

theorem below_drewN'' {B : Nat} {a b : World} (h : Below B a b) (n : Nat) : Below B a (b.drewN n) := ⟨h.os, h.tape, h.output, h.size, h.block⟩
def sumLen (code : List (List Int)) : Nat := (code.map List.length).sum
theorem sumLen_nil : sumLen [] = 0 := rfl
theorem sumLen_next {code : List (List Int)} {k : Nat} {xs : List Int} (h : code[k]? = some xs) : sumLen (code.take (k + 1)) = sumLen (code.take k) + xs.length := by
  unfold sumLen
  rw [List.take_add_one, h, List.map_append, List.sum_append]
  simp
theorem sumLen_take_le : ∀ (code : List (List Int)) (k : Nat), sumLen (code.take k) ≤ sumLen code
  | [], k => by simp [sumLen]
  | x :: t, 0 => by simp [sumLen]
  | x :: t, k + 1 => by
    have := sumLen_take_le t k
    unfold sumLen at this ⊢
    simp at this ⊢
    omega
theorem sumLen_row {code : List (List Int)} {k : Nat} {xs : List Int} (h : code[k]? = some xs) : xs.length ≤ sumLen code := by
  have h1 := sumLen_next h
  have h2 := sumLen_take_le code (k + 1)
  omega

theorem take_set_nextL {α : Type} {xs ys : List α} {k : Nat} {x : α} (hx : xs[k]? = some x) (hy : ys.length = xs.length) (ht : ys.take k = xs.take k) :
    (ys.set k x).take (k + 1) = xs.take (k + 1) := by
  have hk : k < xs.length := (List.getElem?_eq_some_iff.1 hx).1
  rw [List.take_add_one, List.take_add_one, List.getElem?_set_self (by omega), List.take_set_of_le (Nat.le_refl _), ht, hx]
/-- What is known of a slice of slices that came in. -/
def ArgC (w : World) (A : Option Addr) (c : Nat) (code : List (List Int)) : Prop := code.length ≤ c ∧ c ≤ 9223372036854775807 ∧ RC w w.heap.size A code ∧ ∀ xs ∈ code, ∀ x ∈ xs, I64 x

theorem run_make_hd (n : Nat) (hn : n ≤ 1048576) (W : World) :
    (Instr.makeSlice 32 (.int .i64 (n : Int)) (.int .i64 (n : Int))).run Try.prog W = .ok (.slice (some ⟨W.heap.size, 0, none⟩) n n) (W.alloc (.cells (madeCells hdE.z.cells (n * hdE.size)) 24)) :=
  hdE.run_make n (by simp [hdE]; omega) (by omega) W

theorem ne_lenL {α : Type} [DecidableEq α] {xs ys : List α} (h : xs.length ≠ ys.length) : decide (xs = ys) = false := by
  apply decide_eq_false
  intro e
  exact h (by rw [e])
theorem ne_atL {α : Type} [DecidableEq α] {xs ys : List α} {k : Nat} {x y : α} (hx : xs[k]? = some x) (hy : ys[k]? = some y) (h : x ≠ y) : decide (xs = ys) = false := by
  apply decide_eq_false
  intro e
  rw [e, hy] at hx
  injection hx with hx
  exact h hx.symm
theorem take_eq_nextL {α : Type} {xs ys : List α} {k : Nat} {x : α} (hx : xs[k]? = some x) (hy : ys[k]? = some x) (h : xs.take k = ys.take k) : xs.take (k + 1) = ys.take (k + 1) := by
  rw [List.take_add_one, List.take_add_one, h, hx, hy]

/-- the code with its first j rows marked -/
def markTo (k : Int) (code : List (List Int)) (j : Nat) : List (List Int) := code.mapIdx fun i xs => if i < j then marks (k + sumLen (code.take i)) xs.length else xs
def marksC (k : Int) (code : List (List Int)) : List (List Int) := markTo k code code.length
theorem markTo_length (k : Int) (code : List (List Int)) (j : Nat) : (markTo k code j).length = code.length := by simp [markTo]
theorem markTo_zero (k : Int) (code : List (List Int)) : markTo k code 0 = code := by
  apply List.ext_getElem?
  intro i
  simp only [markTo, List.getElem?_mapIdx]
  cases code[i]? with
  | none => rfl
  | some p => simp
theorem markTo_at {k : Int} {code : List (List Int)} {j : Nat} {xs : List Int} (h : code[j]? = some xs) : (markTo k code j)[j]? = some xs := by
  simp only [markTo, List.getElem?_mapIdx, h, Option.map_some]
  rw [if_neg (by omega)]
theorem markTo_set {k : Int} {code : List (List Int)} {j : Nat} {xs : List Int} (h : code[j]? = some xs) : (markTo k code j).set j (marks (k + sumLen (code.take j)) xs.length) = markTo k code (j + 1) := by
  have hj := (List.getElem?_eq_some_iff.1 h).1
  apply List.ext_getElem?
  intro i
  by_cases hij : j = i
  · subst hij
    rw [List.getElem?_set_self (by rw [markTo_length]; exact hj)]
    simp only [markTo, List.getElem?_mapIdx, h, Option.map_some]
    rw [if_pos (by omega)]
  · rw [List.getElem?_set_ne hij]
    simp only [markTo, List.getElem?_mapIdx]
    congr 1
    funext ys
    by_cases h1 : i < j
    · rw [if_pos h1, if_pos (by omega)]
    · rw [if_neg h1, if_neg (by omega)]
theorem marksC_at {k : Int} {code : List (List Int)} {j : Nat} {xs : List Int} (h : code[j]? = some xs) : (marksC k code)[j]? = some (marks (k + sumLen (code.take j)) xs.length) := by
  have hj := (List.getElem?_eq_some_iff.1 h).1
  simp only [marksC, markTo, List.getElem?_mapIdx, h, Option.map_some]
  rw [if_pos hj]

end Go.Proofs.Ytmjeafklafjakaa
