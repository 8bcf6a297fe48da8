/-
  Plain lemmas: the order of lists of numbers; the least of some lists. Conditions: none; nothing of the program is named here.
-/
import Derived.Test.YtnjojnnapdhijaaMem
namespace Go.Proofs.Ytnjojnnapdhijaa
set_option linter.unusedVariables false

/-- below, equal or above, number by number -/
def cmpL : List Int → List Int → Int
  | [], [] => 0
  | [], _ :: _ => -1
  | _ :: _, [] => 1
  | a :: s, b :: t => if a < b then -1 else if b < a then 1 else cmpL s t
theorem cmpL_self : ∀ s, cmpL s s = 0
  | [] => rfl
  | a :: s => by rw [cmpL, if_neg (by omega), if_neg (by omega)]; exact cmpL_self s
theorem cmpL_eq : ∀ (s t : List Int), cmpL s t = 0 → s = t
  | [], [], _ => rfl
  | [], _ :: _, h => by cases h
  | _ :: _, [], h => by cases h
  | a :: s, b :: t, h => by
    rw [cmpL] at h
    split at h
    · cases h
    · split at h
      · cases h
      · rw [cmpL_eq s t h, show a = b by omega]
theorem cmpL_neg : ∀ (s t : List Int), cmpL t s = -cmpL s t
  | [], [] => rfl
  | [], _ :: _ => rfl
  | _ :: _, [] => rfl
  | a :: s, b :: t => by
    have := cmpL_neg s t
    rw [cmpL, cmpL]
    by_cases h1 : a < b
    · rw [if_neg (show ¬ b < a by omega), if_pos h1, if_pos h1]; rfl
    · by_cases h2 : b < a
      · rw [if_pos h2, if_neg h1, if_pos h2]
      · rw [if_neg h2, if_neg h1, if_neg h1, if_neg h2]; exact this
theorem cmpL_three : ∀ (s t : List Int), cmpL s t = -1 ∨ cmpL s t = 0 ∨ cmpL s t = 1
  | [], [] => .inr (.inl rfl)
  | [], _ :: _ => .inl rfl
  | _ :: _, [] => .inr (.inr rfl)
  | a :: s, b :: t => by
    rw [cmpL]
    split
    · exact .inl rfl
    · split
      · exact .inr (.inr rfl)
      · exact cmpL_three s t
theorem cmpL_trans : ∀ (s t u : List Int), cmpL s t ≤ 0 → cmpL t u ≤ 0 → cmpL s u ≤ 0
  | [], [], u, _, h => h
  | [], _ :: _, [], _, _ => by decide
  | [], _ :: _, _ :: _, _, _ => by simp [cmpL]
  | _ :: _, [], u, h, _ => by simp [cmpL] at h
  | _ :: _, _ :: _, [], _, h => by simp [cmpL] at h
  | a :: s, b :: t, c :: u, h1, h2 => by
    rw [cmpL] at h1 h2 ⊢
    by_cases ab : a < b
    · by_cases cb : c < b
      · rw [if_neg (by omega), if_pos cb] at h2; omega
      · rw [if_pos (by omega)]; omega
    · rw [if_neg ab] at h1
      by_cases ba : b < a
      · rw [if_pos ba] at h1; omega
      · rw [if_neg ba] at h1
        by_cases bc : b < c
        · rw [if_pos (by omega)]; omega
        · rw [if_neg bc] at h2
          by_cases cb : c < b
          · rw [if_pos cb] at h2; omega
          · rw [if_neg cb] at h2
            rw [if_neg (by omega), if_neg (by omega)]
            exact cmpL_trans s t u h1 h2
theorem cmpL_drop : ∀ (k : Nat) (s t : List Int), k ≤ s.length → k ≤ t.length → s.take k = t.take k → cmpL s t = cmpL (s.drop k) (t.drop k)
  | 0, s, t, _, _, _ => rfl
  | k + 1, [], t, h, _, _ => by simp at h
  | k + 1, _ :: _, [], _, h, _ => by simp at h
  | k + 1, a :: s, b :: t, h1, h2, h => by
    rw [List.take_succ_cons, List.take_succ_cons] at h
    injection h with e1 e2
    rw [cmpL, if_neg (by omega), if_neg (by omega), List.drop_succ_cons, List.drop_succ_cons]
    exact cmpL_drop k s t (by simpa using h1) (by simpa using h2) e2
theorem cmpL_below {s t : List Int} {k : Nat} {a b : Int} (h : s.take k = t.take k) (hs : s[k]? = some a) (ht : t[k]? = some b) (hab : a < b) : cmpL s t = -1 := by
  have h1 := (List.getElem?_eq_some_iff.1 hs).1
  have h2 := (List.getElem?_eq_some_iff.1 ht).1
  rw [List.getElem?_eq_getElem h1] at hs
  rw [List.getElem?_eq_getElem h2] at ht
  injection hs with hs
  injection ht with ht
  rw [cmpL_drop k s t (by omega) (by omega) h, List.drop_eq_getElem_cons h1, List.drop_eq_getElem_cons h2, hs, ht, cmpL, if_pos hab]
theorem cmpL_above {s t : List Int} {k : Nat} {a b : Int} (h : s.take k = t.take k) (hs : s[k]? = some a) (ht : t[k]? = some b) (hab : b < a) : cmpL s t = 1 := by
  rw [cmpL_neg t s, cmpL_below h.symm ht hs hab]; rfl
theorem cmpL_end {s t : List Int} {k : Nat} (h : s.take k = t.take k) (hs : s.length = k) (ht : k ≤ t.length) : cmpL s t = if k < t.length then -1 else 0 := by
  rw [cmpL_drop k s t (by omega) ht h, List.drop_of_length_le (by omega)]
  split
  · rename_i hlt
    rw [List.drop_eq_getElem_cons hlt]
    rfl
  · rw [List.drop_of_length_le (by omega)]
    rfl
theorem cmpL_end' {s t : List Int} {k : Nat} (h : s.take k = t.take k) (ht : t.length = k) (hs : k < s.length) : cmpL s t = 1 := by
  rw [cmpL_neg t s, cmpL_end h.symm ht (by omega), if_pos hs]; rfl
theorem take_eq_nextI {xs ys : List Int} {k : Nat} {x : Int} (hx : xs[k]? = some x) (hy : ys[k]? = some x) (h : xs.take k = ys.take k) : xs.take (k + 1) = ys.take (k + 1) := by
  rw [List.take_add_one, List.take_add_one, h, hx, hy]
/-- the least so far -/
def leastOf (b x : List Int) : List Int := if cmpL x b < 0 then x else b
def leastL (b : List Int) (l : List (List Int)) : List Int := l.foldl leastOf b
theorem leastL_snoc (b x : List Int) (l : List (List Int)) : leastL b (l ++ [x]) = leastOf (leastL b l) x := by unfold leastL; rw [List.foldl_append]; rfl
theorem leastL_mem : ∀ (l : List (List Int)) (b : List Int), leastL b l = b ∨ leastL b l ∈ l
  | [], b => .inl rfl
  | x :: t, b => by
    have := leastL_mem t (leastOf b x)
    unfold leastL at this ⊢
    rw [List.foldl_cons]
    rcases this with h | h
    · rw [h]
      unfold leastOf
      split
      · exact .inr List.mem_cons_self
      · exact .inl rfl
    · exact .inr (List.mem_cons_of_mem _ h)
theorem leastL_le_b : ∀ (l : List (List Int)) (b : List Int), cmpL (leastL b l) b ≤ 0
  | [], b => by unfold leastL; rw [List.foldl_nil, cmpL_self]; exact Int.le_refl _
  | x :: t, b => by
    have h1 := leastL_le_b t (leastOf b x)
    have h2 : cmpL (leastOf b x) b ≤ 0 := by
      unfold leastOf
      split
      · omega
      · rw [cmpL_self]; exact Int.le_refl _
    exact cmpL_trans _ _ _ h1 h2
theorem leastL_le : ∀ (l : List (List Int)) (b y : List Int), y ∈ l → cmpL (leastL b l) y ≤ 0
  | [], b, y, h => by cases h
  | x :: t, b, y, h => by
    rcases List.mem_cons.1 h with rfl | h
    · have h1 := leastL_le_b t (leastOf b y)
      have h2 : cmpL (leastOf b y) y ≤ 0 := by
        unfold leastOf
        split
        · rw [cmpL_self]; exact Int.le_refl _
        · have := cmpL_neg y b
          omega
      exact cmpL_trans _ _ _ h1 h2
    · exact leastL_le t (leastOf b x) y h
/-- The least does not depend on the order. -/
theorem leastL_same {b : List Int} {l m : List (List Int)} (h : ∀ y, y ∈ l ↔ y ∈ m) : leastL b l = leastL b m := by
  have key : ∀ (l m : List (List Int)), (∀ y, y ∈ l ↔ y ∈ m) → cmpL (leastL b l) (leastL b m) ≤ 0 := fun l m h => by
    rcases leastL_mem m b with e | e
    · rw [e]; exact leastL_le_b l b
    · exact leastL_le l b _ ((h _).2 e)
  have h1 := key l m h
  have h2 := key m l (fun y => (h y).symm)
  have h3 := cmpL_neg (leastL b l) (leastL b m)
  exact cmpL_eq _ _ (by omega)
end Go.Proofs.Ytnjojnnapdhijaa
