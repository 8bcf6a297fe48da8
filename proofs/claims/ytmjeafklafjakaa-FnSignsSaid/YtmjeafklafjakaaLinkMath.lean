/-
  The linking of curves, in plain Lean: tables of sums of signs. Conditions: a valid panel's sides and breaks.
-/
import Derived.Test.YtmjeafklafjakaaTrMath3
namespace Go.Proofs.Ytmjeafklafjakaa
set_option linter.unusedVariables false

/-- the square table of a function -/
def tab (n : Nat) (f : Nat → Nat → Int) : List (List Int) := (List.range n).map fun a => (List.range n).map fun b => f a b
section
variable {n : Nat} {f g : Nat → Nat → Int}
theorem tab_len : (tab n f).length = n := by simp [tab]
theorem tab_row {a : Nat} (h : a < n) : (tab n f)[a]? = some ((List.range n).map fun b => f a b) := by simp [tab, h]
theorem row_at {a b : Nat} (h : b < n) : ((List.range n).map fun b => f a b)[b]? = some (f a b) := by simp [h]
theorem row_len {a : Nat} : ((List.range n).map fun b => f a b).length = n := by simp
theorem tab_congr (h : ∀ a b, a < n → b < n → f a b = g a b) : tab n f = tab n g := by
  unfold tab
  apply List.map_congr_left
  intro a ha
  apply List.map_congr_left
  intro b hb
  exact h a b (by simpa using ha) (by simpa using hb)
theorem tab_set {a b : Nat} {v : Int} (ha : a < n) (hb : b < n) : (tab n f).set a (((List.range n).map fun b => f a b).set b v) = tab n (fun x y => if x = a ∧ y = b then v else f x y) := by
  apply List.ext_getElem?
  intro i
  by_cases hi : a = i
  · subst hi
    rw [List.getElem?_set_self (by rw [tab_len]; exact ha), tab_row ha]
    congr 1
    apply List.ext_getElem?
    intro j
    by_cases hj : b = j
    · subst hj
      rw [List.getElem?_set_self (by rw [row_len]; exact hb)]
      simp [hb]
    · rw [List.getElem?_set_ne hj]
      by_cases hjn : j < n
      · simp [hjn, Ne.symm hj]
      · simp [hjn]
  · rw [List.getElem?_set_ne hi]
    by_cases hin : i < n
    · rw [tab_row hin, tab_row hin]
      congr 1
      apply List.map_congr_left
      intro y _
      rw [if_neg (fun h => hi h.1.symm)]
    · simp [tab, hin]
end
/-- does a crossing of the curves x, y belong to the curves a, b? -/
def Both (x y : Int) (a b : Nat) : Prop := (x = a ∧ y = b) ∨ (x = b ∧ y = a)
instance (x y : Int) (a b : Nat) : Decidable (Both x y a b) := by unfold Both; infer_instance
/-- the sum of the signs of the first k crossings of two curves -/
def lkG (oc uc sg : List Int) : Nat → Nat → Nat → Int
  | 0, _, _ => 0
  | k + 1, a, b => lkG oc uc sg k a b + if Both (oc.getD k 0) (uc.getD k 0) a b then sg.getD k 0 else 0
/-- the same off the diagonal -/
def lkO (oc uc sg : List Int) (k a b : Nat) : Int := if a = b then 0 else lkG oc uc sg k a b
section
variable {oc uc sg : List Int}
theorem getD_some {l : List Int} {k : Nat} {v : Int} (h : l[k]? = some v) : l.getD k 0 = v := by rw [List.getD_eq_getElem?_getD, h]; rfl
theorem lkG_next {k i j : Nat} {s : Int} (h1 : oc[k]? = some (i : Int)) (h2 : uc[k]? = some (j : Int)) (h3 : sg[k]? = some s) (a b : Nat) : lkG oc uc sg (k + 1) a b = lkG oc uc sg k a b + if (i = a ∧ j = b) ∨ (i = b ∧ j = a) then s else 0 := by
  rw [lkG, getD_some h1, getD_some h2, getD_some h3]
  by_cases hc : (i = a ∧ j = b) ∨ (i = b ∧ j = a)
  · rw [if_pos hc, if_pos (show Both (i : Int) (j : Int) a b by unfold Both; omega)]
  · rw [if_neg hc, if_neg (show ¬ Both (i : Int) (j : Int) a b by unfold Both; omega)]
theorem lkG_bound (hs : ∀ s ∈ sg, s = 1 ∨ s = -1) : ∀ (k a b : Nat), -(k : Int) ≤ lkG oc uc sg k a b ∧ lkG oc uc sg k a b ≤ (k : Int)
  | 0, a, b => by simp [lkG]
  | k + 1, a, b => by
    have h := lkG_bound hs k a b
    rw [lkG]
    have h2 : sg.getD k 0 = 0 ∨ sg.getD k 0 = 1 ∨ sg.getD k 0 = -1 := by
      cases hk : sg[k]? with
      | none => left; rw [List.getD_eq_getElem?_getD, hk]; rfl
      | some v => right; rw [getD_some hk]; exact hs v (List.mem_of_getElem? hk)
    split <;> omega
/-- a step of the table: both places -/
theorem tab_same {n k i : Nat} {s : Int} (hi : i < n) (h1 : oc[k]? = some (i : Int)) (h2 : uc[k]? = some (i : Int)) (h3 : sg[k]? = some s) :
    tab n (fun x y => if x = i ∧ y = i then lkG oc uc sg k i i + s else lkG oc uc sg k x y) = tab n (lkG oc uc sg (k + 1)) :=
  tab_congr fun a b ha hb => by
    rw [lkG_next h1 h2 h3]
    by_cases hc : a = i ∧ b = i
    · rw [if_pos hc, if_pos (by omega), hc.1, hc.2]
    · rw [if_neg hc, if_neg (by omega), Int.add_zero]
theorem tab_two {n k i j : Nat} {s : Int} (hi : i < n) (hj : j < n) (hij : i ≠ j) (h1 : oc[k]? = some (i : Int)) (h2 : uc[k]? = some (j : Int)) (h3 : sg[k]? = some s) :
    tab n (fun x y => if x = j ∧ y = i then lkG oc uc sg k j i + s else if x = i ∧ y = j then lkG oc uc sg k i j + s else lkG oc uc sg k x y) = tab n (lkG oc uc sg (k + 1)) :=
  tab_congr fun a b ha hb => by
    rw [lkG_next h1 h2 h3]
    by_cases hc : a = j ∧ b = i
    · rw [if_pos hc, if_pos (by omega), hc.1, hc.2]
    · rw [if_neg hc]
      by_cases hd : a = i ∧ b = j
      · rw [if_pos hd, if_pos (by omega), hd.1, hd.2]
      · rw [if_neg hd, if_neg (by omega), Int.add_zero]
theorem off_same {n k i : Nat} {s : Int} (h1 : oc[k]? = some (i : Int)) (h2 : uc[k]? = some (i : Int)) (h3 : sg[k]? = some s) : tab n (lkO oc uc sg k) = tab n (lkO oc uc sg (k + 1)) :=
  tab_congr fun a b ha hb => by
    unfold lkO
    by_cases e : a = b
    · rw [if_pos e, if_pos e]
    · rw [if_neg e, if_neg e, lkG_next h1 h2 h3, if_neg (by omega), Int.add_zero]
theorem off_two {n k i j : Nat} {s : Int} (hi : i < n) (hj : j < n) (hij : i ≠ j) (h1 : oc[k]? = some (i : Int)) (h2 : uc[k]? = some (j : Int)) (h3 : sg[k]? = some s) :
    tab n (fun x y => if x = j ∧ y = i then lkO oc uc sg k j i + s else if x = i ∧ y = j then lkO oc uc sg k i j + s else lkO oc uc sg k x y) = tab n (lkO oc uc sg (k + 1)) :=
  tab_congr fun a b ha hb => by
    unfold lkO
    by_cases e : a = b
    · rw [if_neg (by omega), if_neg (by omega), if_pos e, if_pos e]
    · rw [if_neg e, if_neg e, if_neg (Ne.symm hij), if_neg hij, lkG_next h1 h2 h3]
      by_cases hc : a = j ∧ b = i
      · rw [if_pos hc, if_pos (by omega), hc.1, hc.2]
      · rw [if_neg hc]
        by_cases hd : a = i ∧ b = j
        · rw [if_pos hd, if_pos (by omega), hd.1, hd.2]
        · rw [if_neg hd, if_neg (by omega), Int.add_zero]
theorem lkO_bound (hs : ∀ s ∈ sg, s = 1 ∨ s = -1) (k a b : Nat) : -(k : Int) ≤ lkO oc uc sg k a b ∧ lkO oc uc sg k a b ≤ (k : Int) := by
  unfold lkO
  split
  · omega
  · exact lkG_bound hs k a b
end
/-- the linking table's half -/
def halfO (oc uc sg : List Int) (k a b : Nat) : Int := if a = b then 0 else Int.tdiv (lkG oc uc sg k a b) 2
theorem half_off (oc uc sg : List Int) (k a b : Nat) : Int.tdiv (lkO oc uc sg k a b) 2 = halfO oc uc sg k a b := by
  unfold lkO halfO
  split <;> rfl
theorem half_max (t : Int) : Int.tdiv (max t (-t)) 2 = max (Int.tdiv t 2) (-(Int.tdiv t 2)) := by
  by_cases h : 0 ≤ t
  · rw [Int.max_eq_left (by omega), Int.tdiv_eq_ediv_of_nonneg h]
    omega
  · have e : Int.tdiv (-t) 2 = -(Int.tdiv t 2) := Int.neg_tdiv t 2
    rw [Int.max_eq_right (by omega), e]
    have h2 : Int.tdiv (-t) 2 = (-t) / 2 := Int.tdiv_eq_ediv_of_nonneg (by omega)
    omega
section
variable {wd ht : Int} {xs : List Int}
/-- what is known of each crossing -/
theorem dir_four (hs : Sz wd ht) (hl : (xs.length : Int) = innerN wd ht) {k : Nat} (hk : k < (zTo xs xs.length).length) :
    ∃ (o u : Wk) (i j : Nat), (dirL wd ht xs true)[k]? = some o ∧ (dirL wd ht xs false)[k]? = some u ∧ OkW wd ht o ∧ OkW wd ht u ∧ (dirC wd ht xs true)[k]? = some (i : Int) ∧ (dirC wd ht xs false)[k]? = some (j : Int) ∧
      i < (curL wd ht xs).length ∧ j < (curL wd ht xs).length ∧ (ownL wd ht xs)[segN ht o]? = some (i : Int) ∧ (ownL wd ht xs)[segN ht u]? = some (j : Int) ∧ (sgL wd ht xs)[k]? = some (sgW o u) := by
  obtain ⟨o, i, h1, h2, h3, h4, h5⟩ := dir_own (b := true) hs hl hk
  obtain ⟨u, j, g1, g2, g3, g4, g5⟩ := dir_own (b := false) hs hl hk
  exact ⟨o, u, i, j, h1, g1, h4, g4, h2, g2, h3, g3, h5, g5, sgL_at h1 g1⟩
end
end Go.Proofs.Ytmjeafklafjakaa
