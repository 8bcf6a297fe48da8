/-
  Plain lemmas: the elements of a code with their places. Conditions: none; nothing of the program is named here.
-/
import Derived.Test.YtnjojnnapdhijaaCodeMath
namespace Go.Proofs.Ytnjojnnapdhijaa
open Go.RowKit
set_option linter.unusedVariables false

/-- the elements of a row with their places -/
def posRow (c : Nat) (xs : List Int) : List (Int × Int × Int) := xs.mapIdx fun i x => (x, (c : Int), (i : Int))
/-- the elements up to row i, index k, with their places -/
def posTo (code : List (List Int)) (i k : Nat) : List (Int × Int × Int) := ((code.take i).mapIdx posRow).flatten ++ (posRow i (code.getD i [])).take k
/-- all elements with their places -/
def posC (code : List (List Int)) : List (Int × Int × Int) := (code.mapIdx posRow).flatten
theorem posRow_at {c i : Nat} {xs : List Int} {x : Int} (h : xs[i]? = some x) : (posRow c xs)[i]? = some (x, (c : Int), (i : Int)) := by
  simp [posRow, List.getElem?_mapIdx, h]
theorem posRow_length (c : Nat) (xs : List Int) : (posRow c xs).length = xs.length := by simp [posRow]
theorem posTo_zero (code : List (List Int)) : posTo code 0 0 = [] := by simp [posTo]
theorem posTo_next {code : List (List Int)} {i k : Nat} {xs : List Int} {x : Int} (h : code[i]? = some xs) (hx : xs[k]? = some x) : posTo code i (k + 1) = posTo code i k ++ [(x, (i : Int), (k : Int))] := by
  unfold posTo
  rw [getD_row h, List.take_add_one, posRow_at hx, List.append_assoc]
  rfl
theorem posTo_row {code : List (List Int)} {i k : Nat} {xs : List Int} (h : code[i]? = some xs) (hk : xs.length ≤ k) : posTo code i k = posTo code (i + 1) 0 := by
  have hi := (List.getElem?_eq_some_iff.1 h).1
  unfold posTo
  rw [getD_row h, List.take_of_length_le (show (posRow i xs).length ≤ k by rw [posRow_length]; exact hk), List.take_add_one, h, Option.toList_some, List.mapIdx_append, List.flatten_append]
  have hm : min i code.length = i := by omega
  simp [hm]
theorem posTo_all {code : List (List Int)} {i : Nat} (h : code.length ≤ i) : posTo code i 0 = posC code := by
  unfold posTo posC
  rw [List.take_of_length_le h]
  simp
theorem posTo_rest (code : List (List Int)) : ∀ (d i : Nat), d = code.length - i → ∃ t, posC code = posTo code i 0 ++ t
  | 0, i, hd => ⟨[], by rw [posTo_all (by omega), List.append_nil]⟩
  | d + 1, i, hd => by
    have hi : i < code.length := by omega
    obtain ⟨t, ht⟩ := posTo_rest code d (i + 1) (by omega)
    have hx : code[i]? = some code[i] := List.getElem?_eq_getElem hi
    rw [← posTo_row hx (Nat.le_refl _)] at ht
    refine ⟨(posRow i code[i]) ++ t, ?_⟩
    rw [ht, ← List.append_assoc]
    congr 1
    unfold posTo
    rw [getD_row hx, List.take_of_length_le (show (posRow i code[i]).length ≤ code[i].length by rw [posRow_length]; exact Nat.le_refl _)]
    simp
theorem posC_split {code : List (List Int)} {i k : Nat} {xs : List Int} {x : Int} (h : code[i]? = some xs) (hx : xs[k]? = some x) : ∃ t, posC code = posTo code i k ++ (x, (i : Int), (k : Int)) :: t := by
  have hk := (List.getElem?_eq_some_iff.1 hx).1
  obtain ⟨t, ht⟩ := posTo_rest code _ (i + 1) rfl
  rw [← posTo_row h (Nat.le_refl _)] at ht
  refine ⟨(posRow i xs).drop (k + 1) ++ t, ?_⟩
  rw [ht]
  unfold posTo
  rw [getD_row h, List.take_of_length_le (show (posRow i xs).length ≤ xs.length by rw [posRow_length]; exact Nat.le_refl _)]
  have hr := posRow_at (c := i) hx
  have e2 := (List.take_append_drop k (posRow i xs)).symm
  rw [List.drop_eq_getElem_cons (by rw [posRow_length]; exact hk)] at e2
  rw [List.getElem?_eq_getElem (by rw [posRow_length]; exact hk)] at hr
  injection hr with hr
  rw [hr] at e2
  conv => lhs; rw [e2]
  simp
theorem posRow_fst (c : Nat) (xs : List Int) : (posRow c xs).map Prod.fst = xs := by
  apply List.ext_getElem?
  intro i
  simp only [posRow, List.getElem?_map, List.getElem?_mapIdx]
  cases xs[i]? <;> rfl
theorem posC_fst (code : List (List Int)) : (posC code).map Prod.fst = code.flatten := by
  unfold posC
  rw [List.map_flatten]
  congr 1
  apply List.ext_getElem?
  intro i
  simp only [List.getElem?_map, List.getElem?_mapIdx]
  cases code[i]? with
  | none => rfl
  | some xs => simp [posRow_fst]
theorem posTo_fst (code : List (List Int)) (i k : Nat) : (posTo code i k).map Prod.fst = upTo code i k := by
  unfold posTo upTo
  rw [List.map_append, List.map_take, posRow_fst]
  have := posC_fst (code.take i)
  unfold posC at this
  rw [this]
theorem posRow_mem {c : Nat} {xs : List Int} {x a b : Int} (h : (x, a, b) ∈ posRow c xs) : ∃ bn : Nat, a = (c : Int) ∧ b = (bn : Int) ∧ xs[bn]? = some x := by
  obtain ⟨n, hn⟩ := List.mem_iff_getElem?.1 h
  simp only [posRow, List.getElem?_mapIdx] at hn
  cases hx : xs[n]? with
  | none => rw [hx] at hn; cases hn
  | some y =>
    rw [hx] at hn
    simp at hn
    exact ⟨n, hn.2.1.symm, hn.2.2.symm, by rw [hx, hn.1]⟩
theorem posTo_mem {code : List (List Int)} {i k : Nat} {x a b : Int} (h : (x, a, b) ∈ posTo code i k) :
    ∃ (an bn : Nat) (xs : List Int), a = (an : Int) ∧ b = (bn : Int) ∧ code[an]? = some xs ∧ xs[bn]? = some x ∧ (an < i ∨ (an = i ∧ bn < k)) := by
  unfold posTo at h
  rw [List.mem_append] at h
  rcases h with h | h
  · obtain ⟨r, hr, hx⟩ := List.mem_flatten.1 h
    obtain ⟨n, hn⟩ := List.mem_iff_getElem?.1 hr
    rw [List.getElem?_mapIdx, List.getElem?_take] at hn
    split at hn
    · rename_i hlt
      cases hc : code[n]? with
      | none => rw [hc] at hn; cases hn
      | some xs =>
        rw [hc] at hn
        simp at hn
        subst hn
        obtain ⟨bn, h1, h2, h3⟩ := posRow_mem hx
        exact ⟨n, bn, xs, h1, h2, hc, h3, .inl hlt⟩
    · cases hn
  · obtain ⟨n, hn⟩ := List.mem_iff_getElem?.1 h
    rw [List.getElem?_take] at hn
    split at hn
    · rename_i hlt
      cases hc : code[i]? with
      | none =>
        rw [List.getD_eq_getElem?_getD, hc] at hn
        simp [posRow] at hn
      | some xs =>
        rw [getD_row hc] at hn
        simp only [posRow, List.getElem?_mapIdx] at hn
        cases hx : xs[n]? with
        | none => rw [hx] at hn; cases hn
        | some y =>
          rw [hx] at hn
          simp at hn
          exact ⟨i, n, xs, hn.2.1.symm, hn.2.2.symm, hc, by rw [hx, hn.1], .inr ⟨rfl, hlt⟩⟩
    · cases hn
theorem posC_mem {code : List (List Int)} {x a b : Int} (h : (x, a, b) ∈ posC code) : ∃ (an bn : Nat) (xs : List Int), a = (an : Int) ∧ b = (bn : Int) ∧ code[an]? = some xs ∧ xs[bn]? = some x := by
  rw [← posTo_all (Nat.le_refl code.length)] at h
  obtain ⟨an, bn, xs, h1, h2, h3, h4, _⟩ := posTo_mem h
  exact ⟨an, bn, xs, h1, h2, h3, h4⟩
theorem lookup_none {α : Type} {l : List (Int × α)} {x : Int} : l.lookup x = none ↔ x ∉ l.map Prod.fst := by
  induction l with
  | nil => simp
  | cons p t ih =>
    obtain ⟨k, v⟩ := p
    rw [List.lookup, List.map_cons, List.mem_cons]
    cases hx : x == k
    · have hne : x ≠ k := by simpa using hx
      simp only [ih, hne, false_or]
    · have he : x = k := by simpa using hx
      simp [he]
theorem lookup_some_mem {α : Type} {l : List (Int × α)} {x : Int} {v : α} (h : l.lookup x = some v) : (x, v) ∈ l := by
  induction l with
  | nil => cases h
  | cons p t ih =>
    obtain ⟨k, u⟩ := p
    rw [List.lookup] at h
    cases hx : x == k
    · rw [hx] at h
      exact List.mem_cons_of_mem _ (ih h)
    · rw [hx] at h
      have he : x = k := by simpa using hx
      injection h with h
      subst he h
      exact List.mem_cons_self
theorem lookup_append {α : Type} (l m : List (Int × α)) (x : Int) : (l ++ m).lookup x = (l.lookup x).or (m.lookup x) := by
  induction l with
  | nil => simp
  | cons p t ih =>
    obtain ⟨k, v⟩ := p
    rw [List.cons_append, List.lookup, List.lookup]
    cases hx : x == k
    · exact ih
    · rfl
/-- where an element stands first -/
def placeOf (code : List (List Int)) (x : Int) : Option (Int × Int) := (posC code).lookup x
theorem placeOf_first {code : List (List Int)} {i k : Nat} {xs : List Int} {x : Int} (h : code[i]? = some xs) (hx : xs[k]? = some x) (hn : x ∉ upTo code i k) : placeOf code x = some ((i : Int), (k : Int)) := by
  obtain ⟨t, ht⟩ := posC_split h hx
  unfold placeOf
  rw [ht, lookup_append, lookup_none.2 (by rw [posTo_fst]; exact hn)]
  simp [List.lookup]
theorem placeOf_again {code : List (List Int)} {i k : Nat} {xs : List Int} {x : Int} (h : code[i]? = some xs) (hx : xs[k]? = some x) (ho : x ∈ upTo code i k) : ∃ a b : Int, placeOf code x = some (a, b) ∧ ¬ (a = (i : Int) ∧ b = (k : Int)) := by
  obtain ⟨t, ht⟩ := posC_split h hx
  have hm : (posTo code i k).lookup x ≠ none := fun e => lookup_none.1 e (by rw [posTo_fst]; exact ho)
  cases hl : (posTo code i k).lookup x with
  | none => exact absurd hl hm
  | some p =>
    obtain ⟨a, b⟩ := p
    refine ⟨a, b, ?_, fun e => ?_⟩
    · unfold placeOf
      rw [ht, lookup_append, hl]
      rfl
    · obtain ⟨an, bn, ys, h1, h2, _, _, h3⟩ := posTo_mem (lookup_some_mem hl)
      omega
theorem placeOf_none {code : List (List Int)} {x : Int} : placeOf code x = none ↔ x ∉ code.flatten := by
  unfold placeOf
  rw [lookup_none, posC_fst]
theorem placeOf_some {code : List (List Int)} {x a b : Int} (h : placeOf code x = some (a, b)) : ∃ (an bn : Nat) (xs : List Int), a = (an : Int) ∧ b = (bn : Int) ∧ code[an]? = some xs ∧ xs[bn]? = some x := posC_mem (lookup_some_mem h)
/-- the first place at which p holds -/
theorem find_hit {code : List (List Int)} {p : Int × Int × Int → Bool} {i k : Nat} {xs : List Int} {x : Int} (h : code[i]? = some xs) (hx : xs[k]? = some x) (hn : (posTo code i k).find? p = none) (hp : p (x, (i : Int), (k : Int)) = true) : (posC code).find? p = some (x, (i : Int), (k : Int)) := by
  obtain ⟨t, ht⟩ := posC_split h hx
  rw [ht, List.find?_append, hn, List.find?_cons, hp]
  rfl
theorem find_next {code : List (List Int)} {p : Int × Int × Int → Bool} {i k : Nat} {xs : List Int} {x : Int} (h : code[i]? = some xs) (hx : xs[k]? = some x) (hn : (posTo code i k).find? p = none) (hp : p (x, (i : Int), (k : Int)) = false) : (posTo code i (k + 1)).find? p = none := by
  rw [posTo_next h hx, List.find?_append, hn, List.find?_cons, hp]
  rfl
end Go.Proofs.Ytnjojnnapdhijaa
