/-
  Plain lemmas: the points of a panel in order, and the nearest of them. Conditions: none; nothing of the program is named here.
-/
import Derived.Test.YtbleipaekdhdmaaPanel
namespace Go.Proofs.Ytbleipaekdhdmaa
open Go.RowKit
set_option linter.unusedVariables false

theorem take_nextN {α : Type} {xs : List α} {k : Nat} {x : α} (h : xs[k]? = some x) : xs.take (k + 1) = xs.take k ++ [x] := by
  rw [List.take_add_one, h]; rfl
/-- the points of row y with X below n -/
def rowTo (y n : Nat) : List (Int × Int) := ((List.range n).filter fun x => (x + y) % 2 == 1).map fun x : Nat => ((x : Int), (y : Int))
/-- the points of the rows below n -/
def gridTo (wn n : Nat) : List (Int × Int) := (List.range n).flatMap fun y => rowTo y wn
theorem rowTo_zero (y : Nat) : rowTo y 0 = [] := rfl
theorem rowTo_yes {y x : Nat} (h : (x + y) % 2 = 1) : rowTo y (x + 1) = rowTo y x ++ [((x : Int), (y : Int))] := by
  unfold rowTo
  rw [List.range_succ, List.filter_append, List.map_append]
  simp [h]
theorem rowTo_no {y x : Nat} (h : (x + y) % 2 ≠ 1) : rowTo y (x + 1) = rowTo y x := by
  unfold rowTo
  rw [List.range_succ, List.filter_append, List.map_append]
  simp [h]
theorem rowTo_two {y x : Nat} (h : (x + y) % 2 = 1) : rowTo y (x + 2) = rowTo y x ++ [((x : Int), (y : Int))] := by
  rw [show x + 2 = (x + 1) + 1 by omega, rowTo_no (by omega), rowTo_yes h]
theorem rowTo_start (y : Nat) : rowTo y (1 - y % 2) = [] := by
  rcases (show y % 2 = 0 ∨ y % 2 = 1 by omega) with h | h
  · rw [h, show 1 - 0 = 0 + 1 by omega, rowTo_no (by omega), rowTo_zero]
  · rw [h]
    exact rowTo_zero y
theorem rowTo_end {y x n : Nat} (h : (x + y) % 2 = 1) (h1 : n ≤ x) (h2 : x ≤ n + 1) : rowTo y x = rowTo y n := by
  rcases (show x = n ∨ x = n + 1 by omega) with e | e
  · rw [e]
  · rw [e, rowTo_no (by omega)]
theorem gridTo_next (wn y : Nat) : gridTo wn (y + 1) = gridTo wn y ++ rowTo y wn := by
  unfold gridTo
  rw [List.range_succ, List.flatMap_append]
  simp
theorem rowTo_mem {y n : Nat} {p : Int × Int} (h : p ∈ rowTo y n) : 0 ≤ p.1 ∧ p.1 < n ∧ p.2 = y := by
  unfold rowTo at h
  rw [List.mem_map] at h
  obtain ⟨x, hx, rfl⟩ := h
  have := (List.mem_filter.1 hx).1
  rw [List.mem_range] at this
  exact ⟨by simp, by simpa using this, rfl⟩
theorem gridTo_mem {wn n : Nat} {p : Int × Int} (h : p ∈ gridTo wn n) : (0 ≤ p.1 ∧ p.1 < wn) ∧ (0 ≤ p.2 ∧ p.2 < n) := by
  unfold gridTo at h
  rw [List.mem_flatMap] at h
  obtain ⟨y, hy, hp⟩ := h
  rw [List.mem_range] at hy
  obtain ⟨h1, h2, h3⟩ := rowTo_mem hp
  exact ⟨⟨h1, h2⟩, by omega, by omega⟩
theorem rowTo_len (y : Nat) : ∀ n, (rowTo y n).length ≤ n
  | 0 => by simp [rowTo_zero]
  | n + 1 => by
    have := rowTo_len y n
    by_cases h : (n + y) % 2 = 1
    · rw [rowTo_yes h, List.length_append]; simp; omega
    · rw [rowTo_no h]; omega
theorem gridTo_len (wn : Nat) : ∀ n, (gridTo wn n).length ≤ n * wn
  | 0 => by simp [gridTo]
  | n + 1 => by
    have := gridTo_len wn n
    have := rowTo_len n wn
    rw [gridTo_next, List.length_append, Nat.add_mul, Nat.one_mul]
    omega

theorem mul_self_nn (a : Int) : 0 ≤ a * a := by
  rcases Int.le_total 0 a with h | h
  · exact Int.mul_nonneg h h
  · have := Int.mul_nonneg (show 0 ≤ -a by omega) (show 0 ≤ -a by omega)
    rwa [Int.neg_mul_neg] at this
/-- the square of the distance of a place from a point -/
def sqP (s : Int) (p q : Int × Int) : Int := (p.1 - q.1 * s) * (p.1 - q.1 * s) + (p.2 - q.2 * s) * (p.2 - q.2 * s)
theorem sq_flip (a b : Int) : (a - b) * (a - b) = (b - a) * (b - a) := by
  rw [show b - a = -(a - b) by omega, Int.neg_mul_neg]
theorem sqP_nonneg (s : Int) (p q : Int × Int) : 0 ≤ sqP s p q := by
  unfold sqP
  have h1 := mul_self_nn (p.1 - q.1 * s)
  have h2 := mul_self_nn (p.2 - q.2 * s)
  omega
def stepN (s : Int) (p : Int × Int) (b : Int × (Int × Int)) (q : Int × Int) : Int × (Int × Int) := if sqP s p q < b.1 then (sqP s p q, q) else b
def stepM (s : Int) (p : Int × Int) (b : Int × (Int × Int)) (q : Int × Int) : Int × (Int × Int) := if b.1 < 0 ∨ sqP s p q < b.1 then (sqP s p q, q) else b
def foldN (s : Int) (p : Int × Int) (l : List (Int × Int)) : Int × (Int × Int) := l.foldl (stepN s p) (s * s + 1, (0, 0))
def foldM (s : Int) (p : Int × Int) (l : List (Int × Int)) : Int × (Int × Int) := l.foldl (stepM s p) (-1, (0, 0))
theorem foldN_snoc (s : Int) (p : Int × Int) (l : List (Int × Int)) (q : Int × Int) : foldN s p (l ++ [q]) = stepN s p (foldN s p l) q := by
  unfold foldN; rw [List.foldl_append]; rfl
theorem foldM_snoc (s : Int) (p : Int × Int) (l : List (Int × Int)) (q : Int × Int) : foldM s p (l ++ [q]) = stepM s p (foldM s p l) q := by
  unfold foldM; rw [List.foldl_append]; rfl
/-- the two folds tell the same -/
def sameNM (s : Int) (n m : Int × (Int × Int)) : Prop := (m.1 = -1 ∧ n = (s * s + 1, (0, 0))) ∨ (0 ≤ m.1 ∧ ((m.1 ≤ s * s ∧ n = m) ∨ (s * s < m.1 ∧ n = (s * s + 1, (0, 0)))))
theorem sameNM_step {s : Int} {p q : Int × Int} {n m : Int × (Int × Int)} (h : sameNM s n m) : sameNM s (stepN s p n q) (stepM s p m q) := by
  have h0 := sqP_nonneg s p q
  have hs := mul_self_nn s
  generalize hd : sqP s p q = d at h0
  obtain ⟨nb, no⟩ := n
  obtain ⟨mb, mo⟩ := m
  unfold stepN stepM
  rw [hd]
  simp only [sameNM] at h ⊢
  simp only [Prod.mk.injEq] at h
  rcases h with ⟨h1, h2, h3⟩ | ⟨h1, ⟨h2, h3, h4⟩ | ⟨h2, h3, h4⟩⟩
  · subst h1 h2 h3
    rw [if_pos (show (-1 : Int) < 0 ∨ d < -1 from .inl (by omega))]
    by_cases hc : d < s * s + 1
    · rw [if_pos hc]
      exact .inr ⟨h0, .inl ⟨by simp only; omega, rfl⟩⟩
    · rw [if_neg hc]
      exact .inr ⟨h0, .inr ⟨by simp only; omega, rfl⟩⟩
  · subst h3 h4
    by_cases hc : d < nb
    · rw [if_pos hc, if_pos (show nb < 0 ∨ d < nb from .inr hc)]
      exact .inr ⟨h0, .inl ⟨by simp only; omega, rfl⟩⟩
    · rw [if_neg hc, if_neg (show ¬ (nb < 0 ∨ d < nb) by omega)]
      exact .inr ⟨h1, .inl ⟨h2, rfl⟩⟩
  · subst h3 h4
    by_cases hc : d < mb
    · rw [if_pos (show mb < 0 ∨ d < mb from .inr hc)]
      by_cases hc2 : d < s * s + 1
      · rw [if_pos hc2]
        exact .inr ⟨h0, .inl ⟨by simp only; omega, rfl⟩⟩
      · rw [if_neg hc2]
        exact .inr ⟨h0, .inr ⟨by simp only; omega, rfl⟩⟩
    · rw [if_neg (show ¬ (mb < 0 ∨ d < mb) by omega), if_neg (show ¬ d < s * s + 1 by omega)]
      exact .inr ⟨h1, .inr ⟨h2, rfl⟩⟩
theorem foldM_pos (s : Int) (p : Int × Int) (l : List (Int × Int)) (q : Int × Int) : 0 ≤ (foldM s p (l ++ [q])).1 := by
  rw [foldM_snoc]
  unfold stepM
  have := sqP_nonneg s p q
  split
  · exact this
  · rename_i h
    omega
theorem sameNM_fold (s : Int) (p : Int × Int) (l : List (Int × Int)) : sameNM s (foldN s p l) (foldM s p l) := by
  have : ∀ (l : List (Int × Int)) n m, sameNM s n m → sameNM s (l.foldl (stepN s p) n) (l.foldl (stepM s p) m) := by
    intro l
    induction l with
    | nil => intro n m h; exact h
    | cons q t ih => intro n m h; exact ih _ _ (sameNM_step h)
  exact this l _ _ (.inl ⟨rfl, rfl⟩)
/-- the nearest point, and whether it is near -/
def nearP (s : Int) (p : Int × Int) (l : List (Int × Int)) : (Int × Int) × Bool := ((foldN s p l).2, decide ((foldN s p l).1 ≤ s * s))
theorem nearP_M {s : Int} {p : Int × Int} {l : List (Int × Int)} (hl : 0 ≤ (foldM s p l).1) : decide ((foldM s p l).1 ≤ s * s) = (nearP s p l).2 ∧ ((nearP s p l).2 = true → (foldM s p l).2 = (nearP s p l).1) := by
  rcases sameNM_fold s p l with ⟨h1, h2⟩ | ⟨h1, ⟨h2, h3⟩ | ⟨h2, h3⟩⟩
  · omega
  · unfold nearP
    rw [h3]
    exact ⟨rfl, fun _ => rfl⟩
  · unfold nearP
    rw [h3]
    have e1 : ¬ (foldM s p l).1 ≤ s * s := by omega
    have e2 : ¬ s * s + 1 ≤ s * s := by omega
    simp only [e1, e2, decide_false]
    exact ⟨trivial, fun h => by cases h⟩
end Go.Proofs.Ytbleipaekdhdmaa
