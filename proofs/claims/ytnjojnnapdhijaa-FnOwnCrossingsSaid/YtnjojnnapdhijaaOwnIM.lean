/-
  Plain law of crossings of curves: the table of common crossings is even, its rows add up, and a curve that is dropped takes its crossings along. Conditions: none; nothing of the program is named here.
  Contract: slices.Sort at a row of integers of the call's own. Conditions: none beyond the lengths.
  Contract: OwnCrossings, of the reference. Conditions: none beyond the lengths.
  Plain lemmas: the sorted row of the crossings that a curve meets twice. Conditions: none; nothing of the program is named here.
  Contract: OwnCrossings, of the reference, whatever the curve. Conditions: none beyond the lengths.
  Contracts: OwnCrossings, of the program and of the reference. Conditions: none beyond the lengths.
-/
import Derived.Test.YtnjojnnapdhijaaDropIM
import Derived.Test.YtnjojnnapdhijaaCodeIn
import Derived.Test.YtnjojnnapdhijaaRet
import Derived.Test.YtnjojnnapdhijaaMoveMath
import Derived.Test.YtnjojnnapdhijaaRenI
import Derived.Shelf.SortM.Plain
import Derived.Shelf.SortM.SortNone
import Derived.Ground.SlgmProg
import Derived.Shelf.SlGeneric
import Derived.Sort.OwnSortedInts
namespace Go.Proofs.Ytnjojnnapdhijaa
open Go.RowKit
set_option linter.unusedVariables false

def ent (t : List (List Int)) (i j : Nat) : Int := (t.getD i []).getD j 0
def rsum (t : List (List Int)) (i : Nat) : Int := (t.getD i []).sum
theorem sum_set1 : ∀ {xs : List Int} {b : Nat}, b < xs.length → (xs.set b (xs.getD b 0 + 1)).sum = xs.sum + 1
  | [], b, h => by simp at h
  | x :: t, 0, h => by simp; omega
  | x :: t, b + 1, h => by
    have := sum_set1 (xs := t) (b := b) (by simpa using h)
    simp only [List.set_cons_succ, List.sum_cons, List.getD_cons_succ]
    omega
theorem sq_row {n : Nat} {m : Int} {t : List (List Int)} (h : Sq n m t) {i : Nat} (hi : i < n) : t[i]? = some (t.getD i []) ∧ (t.getD i []).length = n := by
  have hi' : i < t.length := by rw [h.1]; exact hi
  have e : t[i]? = some t[i] := List.getElem?_eq_getElem hi'
  have e2 : t.getD i [] = t[i] := getD_row e
  rw [e2]
  exact ⟨e, (h.2 _ (List.mem_of_getElem? e)).1⟩
theorem bump_row {n : Nat} {m : Int} {t : List (List Int)} (h : Sq n m t) {a b i : Nat} (ha : a < n) :
    (bump a b t).getD i [] = if i = a then (t.getD a []).set b ((t.getD a []).getD b 0 + 1) else t.getD i [] := by
  unfold bump
  by_cases hi : i = a
  · subst hi
    rw [if_pos rfl]
    exact getD_row (List.getElem?_set_self (by rw [h.1]; exact ha))
  · rw [if_neg hi, List.getD_eq_getElem?_getD, List.getElem?_set_ne (by omega), ← List.getD_eq_getElem?_getD]
theorem bump_ent {n : Nat} {m : Int} {t : List (List Int)} (h : Sq n m t) {a b i j : Nat} (ha : a < n) (hb : b < n) :
    ent (bump a b t) i j = ent t i j + if i = a ∧ j = b then 1 else 0 := by
  unfold ent
  rw [bump_row h ha]
  by_cases hi : i = a
  · subst hi
    rw [if_pos rfl]
    have hl := (sq_row h ha).2
    by_cases hj : j = b
    · subst hj
      rw [if_pos ⟨rfl, rfl⟩]
      exact getD_at (List.getElem?_set_self (by omega))
    · rw [if_neg (by omega), List.getD_eq_getElem?_getD, List.getElem?_set_ne (by omega), ← List.getD_eq_getElem?_getD]
      omega
  · rw [if_neg hi, if_neg (by omega)]
    omega
theorem bump_sum {n : Nat} {m : Int} {t : List (List Int)} (h : Sq n m t) {a b i : Nat} (ha : a < n) (hb : b < n) :
    rsum (bump a b t) i = rsum t i + if i = a then 1 else 0 := by
  unfold rsum
  rw [bump_row h ha]
  by_cases hi : i = a
  · subst hi
    rw [if_pos rfl, if_pos rfl]
    exact sum_set1 (by rw [(sq_row h ha).2]; exact hb)
  · rw [if_neg hi, if_neg hi]
    omega
theorem sum_zero : ∀ n : Nat, (List.replicate n (0 : Int)).sum = 0
  | 0 => rfl
  | n + 1 => by rw [List.replicate_succ, List.sum_cons, sum_zero n]; rfl
/-- how often a curve meets the crossings below k -/
def metN (code : List (List Int)) (i : Nat) : Nat → Int
  | 0 => 0
  | k + 1 => metN code i k + (if curveOf code ((k : Int) + 1) = i then 1 else 0) + (if curveOf code (-((k : Int) + 1)) = i then 1 else 0)
/-- how many crossings below k a curve has -/
def hasN (code : List (List Int)) (i : Nat) : Nat → Int
  | 0 => 0
  | k + 1 => hasN code i k + (if curveOf code ((k : Int) + 1) = i ∨ curveOf code (-((k : Int) + 1)) = i then 1 else 0)
theorem meetT_law {code : List (List Int)} (hv : validC code = true) : ∀ k, k ≤ sumLen code / 2 →
    (∀ i j, i < code.length → j < code.length → ent (meetT code k) i j = ent (meetT code k) j i) ∧ (∀ i, i < code.length → rsum (meetT code k) i + ent (meetT code k) i i = metN code i k) ∧ (∀ i, i < code.length → rsum (meetT code k) i = hasN code i k)
  | 0, _ => by
    have he : ∀ i j, ent (meetT code 0) i j = 0 := fun i j => by
      unfold ent meetT
      rw [List.getD_eq_getElem?_getD, List.getD_eq_getElem?_getD]
      by_cases hi : i < code.length
      · rw [List.getElem?_replicate, if_pos hi, Option.getD_some, List.getElem?_replicate]
        split <;> rfl
      · rw [List.getElem?_replicate, if_neg hi]
        rfl
    have hr : ∀ i, i < code.length → rsum (meetT code 0) i = 0 := fun i hi => by
      unfold rsum meetT
      rw [List.getD_eq_getElem?_getD, List.getElem?_replicate, if_pos hi, Option.getD_some]
      exact sum_zero _
    exact ⟨fun i j _ _ => by rw [he, he], fun i hi => by rw [hr i hi, he]; rfl, fun i hi => by rw [hr i hi]; rfl⟩
  | k + 1, hk => by
    obtain ⟨ih1, ih2, ih3⟩ := meetT_law hv k (by omega)
    have hsq := meetT_sq hv k (by omega)
    obtain ⟨h1, h2⟩ := valid_at2 hv (k := k) (by omega)
    obtain ⟨a, _, _, _, e1, l1, _⟩ := curveOf_lt hv h1
    obtain ⟨b, _, _, _, e2, l2, _⟩ := curveOf_lt hv h2
    have hsq2 := hsq.bump (by omega) l1 l2
    have hM : meetT code (k + 1) = meetS a b (meetT code k) := by rw [← e1, ← e2]; rfl
    have hE : ∀ i j, ent (meetT code (k + 1)) i j = ent (meetT code k) i j + if (i = a ∧ j = b) ∨ (i = b ∧ j = a) then 1 else 0 := fun i j => by
      rw [hM]
      unfold meetS
      by_cases hab : a = b
      · subst hab
        rw [if_pos rfl, bump_ent hsq l1 l1]
        by_cases h : i = a ∧ j = a
        · rw [if_pos h, if_pos (.inl h)]
        · rw [if_neg h, if_neg (by omega)]
      · rw [if_neg hab, bump_ent hsq2 l2 l1, bump_ent hsq l1 l2]
        by_cases h : i = a ∧ j = b
        · rw [if_pos h, if_neg (by omega), if_pos (.inl h)]
          omega
        · rw [if_neg h]
          by_cases h' : i = b ∧ j = a
          · rw [if_pos h', if_pos (.inr h')]
            omega
          · rw [if_neg h', if_neg (by omega)]
            omega
    have hS : ∀ i, rsum (meetT code (k + 1)) i = rsum (meetT code k) i + if a = i ∨ b = i then 1 else 0 := fun i => by
      rw [hM]
      unfold meetS
      by_cases hab : a = b
      · subst hab
        rw [if_pos rfl, bump_sum hsq l1 l1]
        by_cases h : i = a
        · rw [if_pos h, if_pos (by omega)]
        · rw [if_neg h, if_neg (by omega)]
      · rw [if_neg hab, bump_sum hsq2 l2 l1, bump_sum hsq l1 l2]
        by_cases h : i = a
        · rw [if_pos h, if_neg (by omega), if_pos (by omega)]
          omega
        · rw [if_neg h]
          by_cases h' : i = b
          · rw [if_pos h', if_pos (by omega)]
            omega
          · rw [if_neg h', if_neg (by omega)]
            omega
    refine ⟨fun i j hi hj => ?_, fun i hi => ?_, fun i hi => ?_⟩
    · rw [hE, hE, ih1 i j hi hj]
      by_cases h : (i = a ∧ j = b) ∨ (i = b ∧ j = a)
      · rw [if_pos h, if_pos (by omega)]
      · rw [if_neg h, if_neg (by omega)]
    · rw [hE, hS, metN, e1, e2, ← ih2 i hi]
      by_cases h1 : a = i
      · rw [if_pos (Or.inl h1), if_pos h1]
        by_cases h2 : b = i
        · rw [if_pos h2, if_pos (by omega)]
          omega
        · rw [if_neg h2, if_neg (by omega)]
          omega
      · rw [if_neg h1]
        by_cases h2 : b = i
        · rw [if_pos (Or.inr h2), if_pos h2, if_neg (by omega)]
          omega
        · rw [if_neg (by omega), if_neg h2, if_neg (by omega)]
          omega
    · rw [hS, hasN, e1, e2, ih3 i hi]
/-- the numbers below k that are met by a curve -/
def metL (code : List (List Int)) (i : Nat) : Nat → List Int
  | 0 => []
  | k + 1 => metL code i k ++ (if curveOf code ((k : Int) + 1) = i then [(k : Int) + 1] else []) ++ (if curveOf code (-((k : Int) + 1)) = i then [-((k : Int) + 1)] else [])
theorem metL_len (code : List (List Int)) (i : Nat) : ∀ k, ((metL code i k).length : Int) = metN code i k
  | 0 => rfl
  | k + 1 => by
    have ih := metL_len code i k
    unfold metL metN
    rw [List.length_append, List.length_append, ← ih]
    split <;> split <;> simp
theorem metL_mem {code : List (List Int)} {i : Nat} {x : Int} : ∀ {k : Nat}, x ∈ metL code i k ↔ (x ≠ 0 ∧ -(k : Int) ≤ x ∧ x ≤ k) ∧ curveOf code x = i
  | 0 => by
    unfold metL
    constructor
    · intro h; cases h
    · intro h; omega
  | k + 1 => by
    have ih := metL_mem (code := code) (i := i) (x := x) (k := k)
    unfold metL
    rw [List.mem_append, List.mem_append, ih]
    constructor
    · rintro ((h | h) | h)
      · exact ⟨by omega, h.2⟩
      · split at h
        · rename_i hc
          rw [List.mem_singleton.1 h]
          exact ⟨by omega, hc⟩
        · cases h
      · split at h
        · rename_i hc
          rw [List.mem_singleton.1 h]
          exact ⟨by omega, hc⟩
        · cases h
    · rintro ⟨h1, h2⟩
      by_cases ha : x = (k : Int) + 1
      · subst ha
        left; right
        rw [if_pos h2]
        exact List.mem_singleton.2 rfl
      · by_cases hb : x = -((k : Int) + 1)
        · subst hb
          right
          rw [if_pos h2]
          exact List.mem_singleton.2 rfl
        · left; left
          exact ⟨by omega, h2⟩
theorem metL_nodup (code : List (List Int)) (i : Nat) : ∀ k, (metL code i k).Nodup
  | 0 => List.nodup_nil
  | k + 1 => by
    have ih := metL_nodup code i k
    have hm : ∀ x, x ∈ metL code i k → -(k : Int) ≤ x ∧ x ≤ k := fun x hx => (metL_mem.1 hx).1.2
    unfold metL
    rw [List.nodup_append, List.nodup_append]
    refine ⟨⟨ih, by split <;> simp, fun a ha b hb => ?_⟩, by split <;> simp, fun a ha b hb => ?_⟩
    · have := hm a ha
      split at hb
      · have := List.mem_singleton.1 hb
        omega
      · cases hb
    · split at hb
      · have hb := List.mem_singleton.1 hb
        rcases List.mem_append.1 ha with ha | ha
        · have := hm a ha
          omega
        · split at ha
          · have := List.mem_singleton.1 ha
            omega
          · cases ha
      · cases hb
theorem curveOf_at {code : List (List Int)} (hv : validC code = true) {i k : Nat} {xs : List Int} {x : Int} (hi : code[i]? = some xs) (hx : xs[k]? = some x) : curveOf code x = i := by
  have := valid_apart' hv i k xs x hi hx
  unfold curveOf plc
  rw [this]
  simp
/-- A curve meets as many crossings as it has elements. -/
theorem metN_row {code : List (List Int)} (hv : validC code = true) {i : Nat} {xs : List Int} (hi : code[i]? = some xs) : metN code i (sumLen code / 2) = (xs.length : Int) := by
  obtain ⟨N, g1, g2, g3, g4⟩ := validC_true hv
  have eN : sumLen code / 2 = N := by omega
  rw [← metL_len, eN]
  have hnd : xs.Nodup := by
    have h := g4.1
    unfold List.Nodup at h ⊢
    rw [List.pairwise_flatten] at h
    exact h.1 xs (List.mem_of_getElem? hi)
  have h1 := len_le_of_sub (metL_nodup code i N) (m := xs) fun x hx => by
    obtain ⟨hr, hc⟩ := metL_mem.1 hx
    have hm := valid_has hv (x := x) hr.1 (by rw [eN]; exact hr.2.1) (by rw [eN]; exact hr.2.2)
    obtain ⟨i', k, ys, _, e, _, hy, hk⟩ := curveOf_lt hv hm
    rw [hc] at e
    subst e
    rw [hi] at hy
    injection hy with hy
    subst hy
    exact List.mem_of_getElem? hk
  have h2 := len_le_of_sub hnd (m := metL code i N) fun x hx => by
    obtain ⟨k, hk⟩ := List.mem_iff_getElem?.1 hx
    exact metL_mem.2 ⟨g4.2 x (List.mem_flatten.2 ⟨xs, List.mem_of_getElem? hi, hx⟩), curveOf_at hv hi hk⟩
  omega
/-- What a row of the table and its corner add up to. -/
theorem meet_row {code : List (List Int)} (hv : validC code = true) {i : Nat} {xs : List Int} (hi : code[i]? = some xs) :
    rsum (meetT code (sumLen code / 2)) i + ent (meetT code (sumLen code / 2)) i i = (xs.length : Int) := by
  rw [(meetT_law hv _ (Nat.le_refl _)).2.1 i (List.getElem?_eq_some_iff.1 hi).1, metN_row hv hi]
theorem meet_sym {code : List (List Int)} (hv : validC code = true) {i j : Nat} (hi : i < code.length) (hj : j < code.length) :
    ent (meetT code (sumLen code / 2)) i j = ent (meetT code (sumLen code / 2)) j i := (meetT_law hv _ (Nat.le_refl _)).1 i j hi hj
theorem curveOf_iff {code : List (List Int)} (hv : validC code = true) {i : Nat} {xs : List Int} (hi : code[i]? = some xs) {x : Int} (hx : x ∈ code.flatten) : curveOf code x = i ↔ x ∈ xs := by
  obtain ⟨i', k, ys, _, e, _, hy, hk⟩ := curveOf_lt hv hx
  constructor
  · intro h
    rw [h] at e
    subst e
    rw [hi] at hy
    injection hy with hy
    subst hy
    exact List.mem_of_getElem? hk
  · intro h
    obtain ⟨k', hk'⟩ := List.mem_iff_getElem?.1 h
    exact curveOf_at hv hi hk'
theorem hasB_iff {xs : List Int} {n : Int} : hasB xs n = true ↔ n ∈ xs := by
  unfold hasB
  rw [List.any_eq_true]
  constructor
  · rintro ⟨x, hx, e⟩
    rw [← eq_of_beq e]
    exact hx
  · intro h
    exact ⟨n, h, beq_self_eq_true n⟩
theorem has_drop {code : List (List Int)} (hv : validC code = true) {i : Nat} {xs : List Int} (hi : code[i]? = some xs) {k : Nat} (hk : k < sumLen code / 2) :
    hasB ((code.getD i []).map crI) (k : Int) = decide (curveOf code ((k : Int) + 1) = i ∨ curveOf code (-((k : Int) + 1)) = i) := by
  obtain ⟨h1, h2⟩ := valid_at2 hv hk
  rw [Bool.eq_iff_iff, decide_eq_true_iff, curveOf_iff hv hi h1, curveOf_iff hv hi h2, getD_row hi, hasB_iff, List.mem_map]
  constructor
  · rintro ⟨y, hy, e⟩
    unfold crI at e
    rcases Int.lt_or_le 0 y with h | h
    · left
      rw [show (k : Int) + 1 = y by omega]
      exact hy
    · right
      rw [show -((k : Int) + 1) = y by omega]
      exact hy
  · rintro (h | h)
    · exact ⟨_, h, by unfold crI; omega⟩
    · exact ⟨_, h, by unfold crI; omega⟩
theorem numsW_has {code : List (List Int)} {i : Nat} {g : Nat → Bool} : ∀ {n : Nat}, (∀ k, k < n → g k = decide (curveOf code ((k : Int) + 1) = i ∨ curveOf code (-((k : Int) + 1)) = i)) → ((numsW g n).length : Int) + hasN code i n = n
  | 0, _ => rfl
  | n + 1, h => by
    have ih := numsW_has (n := n) (fun k hk => h k (by omega))
    have hn := h n (by omega)
    unfold numsW hasN
    by_cases hc : curveOf code ((n : Int) + 1) = i ∨ curveOf code (-((n : Int) + 1)) = i
    · rw [if_pos (by rw [hn]; exact decide_eq_true hc), if_pos hc]
      omega
    · rw [if_neg (by rw [hn, decide_eq_false hc]; simp), if_neg hc, List.length_append, List.length_singleton]
      omega
/-- the row of the curve that goes is empty -/
theorem drop_empty {code : List (List Int)} (hv : validC code = true) {i : Nat} {xs : List Int} (hi : code[i]? = some xs) : (dropC code i)[i]? = some [] := by
  obtain ⟨N, g1, g2, g3, g4⟩ := validC_true hv
  have eN : sumLen code / 2 = N := by omega
  unfold dropC withoutC renC
  rw [List.getElem?_map, hi, Option.map_some, getD_row hi]
  congr 1
  unfold renRow
  rw [List.filterMap_eq_nil_iff]
  intro x hx
  apply renX_none
  unfold numF
  cases hc : (numsW (fun k : Nat => hasB (xs.map crI) (k : Int)) (sumLen code / 2)).lookup (crI x) with
  | none => rfl
  | some v =>
    exfalso
    have hr := numsW_range hc
    have key : ∀ n c v, (numsW (fun k : Nat => hasB (xs.map crI) (k : Int)) n).lookup c = some v → hasB (xs.map crI) c = false := by
      intro n
      induction n with
      | zero => intro c v h; cases h
      | succ n ih =>
        intro c v h
        unfold numsW at h
        split at h
        · exact ih c v h
        · rename_i hg
          rw [lookup_snoc2] at h
          cases hq : (numsW (fun k : Nat => hasB (xs.map crI) (k : Int)) n).lookup c with
          | some u => exact ih c u hq
          | none =>
            rw [hq] at h
            by_cases hcn : c = (n : Int)
            · subst hcn
              simpa using hg
            · simp [hcn] at h
    have := key _ _ _ hc
    have h2 : hasB (xs.map crI) (crI x) = true := hasB_iff.2 (List.mem_map.2 ⟨x, hx, rfl⟩)
    rw [h2] at this
    cases this
theorem cutAt_flat {d : List (List Int)} {n : Nat} (h : d[n]? = some []) : (cutAt d n).flatten = d.flatten ∧ (cutAt d n).length + 1 = d.length ∧ sumLen (cutAt d n) = sumLen d := by
  have hn := (List.getElem?_eq_some_iff.1 h).1
  have e : d = d.take n ++ [] :: d.drop (n + 1) := by
    have h2 : d[n] = [] := (List.getElem?_eq_some_iff.1 h).2
    rw [← h2, ← List.drop_eq_getElem_cons hn, List.take_append_drop]
  have hf : (cutAt d n).flatten = d.flatten := by
    unfold cutAt
    conv => rhs; rw [e]
    rw [List.flatten_append, List.flatten_append, List.flatten_cons, List.nil_append]
  refine ⟨hf, ?_, ?_⟩
  · unfold cutAt
    rw [List.length_append, List.length_take, List.length_drop]
    omega
  · rw [← flatten_len, ← flatten_len, hf]
/-- A curve that is dropped takes its crossings along. -/
theorem drop_law {code : List (List Int)} {j : Int} (h : (dropR code j).2 = 0) : ∃ n : Nat, j = (n : Int) ∧ n < code.length ∧ validC code = true ∧ validC (dropR code j).1 = true ∧ (dropR code j).1.length + 1 = code.length ∧
    ((sumLen (dropR code j).1 / 2 : Nat) : Int) = ((sumLen code / 2 : Nat) : Int) - rsum (meetT code (sumLen code / 2)) n := by
  have hc : curveC code j = 0 := by
    unfold dropR at h
    split at h
    · assumption
    · exact h
  obtain ⟨hv, n, rfl, hn⟩ := curveC_zeroD hc
  have hi : code[n]? = some code[n] := List.getElem?_eq_getElem hn
  have e : (dropR code (n : Int)).1 = cutAt (dropC code n) n := by
    unfold dropR
    rw [if_pos hc]
    simp
  rw [e]
  obtain ⟨c1, c2, c3⟩ := cutAt_flat (drop_empty hv hi)
  have hl := (withoutC_size (fun k : Nat => hasB ((code.getD n []).map crI) (k : Int)) code).1
  have hd : validC (dropC code n) = true := without_valid _ hv
  have hs := without_sum (fun k : Nat => hasB ((code.getD n []).map crI) (k : Int)) hv
  have hw := numsW_has (code := code) (i := n) (n := sumLen code / 2) (g := fun k : Nat => hasB ((code.getD n []).map crI) (k : Int)) (fun k hk => has_drop hv hi hk)
  have hr := (meetT_law hv _ (Nat.le_refl _)).2.2 n hn
  refine ⟨n, rfl, hn, hv, ?_, ?_, ?_⟩
  · obtain ⟨N, g1, g2, g3, g4⟩ := validC_true hd
    rw [validC_good (N := N) (by omega) (by rw [c3]; exact g2) g3, c1]
    exact decide_eq_true g4
  · unfold dropC at c2 ⊢
    omega
  · rw [c3, hr]
    unfold dropC
    rw [hs]
    omega
/-- The numbers of the table at hand. -/
theorem meet_at {code : List (List Int)} (hv : validC code = true) {i j : Nat} (hi : i < code.length) (hj : j < code.length) :
    ∃ r, (meetT code (sumLen code / 2))[i]? = some r ∧ r.length = code.length ∧ r[j]? = some (ent (meetT code (sumLen code / 2)) i j) ∧ 0 ≤ ent (meetT code (sumLen code / 2)) i j ∧ ent (meetT code (sumLen code / 2)) i j ≤ 240 ∧ r.sum = rsum (meetT code (sumLen code / 2)) i := by
  obtain ⟨hs1, hs2, hs3⟩ := valid_sum hv
  have hsq := meetT_sq hv _ (Nat.le_refl _)
  obtain ⟨h1, h2⟩ := sq_row hsq hi
  have e : ((meetT code (sumLen code / 2)).getD i [])[j]? = some ((meetT code (sumLen code / 2)).getD i [])[j] := List.getElem?_eq_getElem (by omega)
  have e2 : ent (meetT code (sumLen code / 2)) i j = ((meetT code (sumLen code / 2)).getD i [])[j] := getD_at e
  have hb := (hsq.2 _ (List.mem_of_getElem? h1)).2 _ (List.getElem_mem (show j < ((meetT code (sumLen code / 2)).getD i []).length by omega))
  rw [← e2] at hb e
  exact ⟨_, h1, h2, e, hb.1, by omega, rfl⟩
/-- what the first j numbers of row i add up to -/
def pS (t : List (List Int)) (i j : Nat) : Int := ((t.getD i []).take j).sum
theorem pS_zero (t : List (List Int)) (i : Nat) : pS t i 0 = 0 := by unfold pS; simp
theorem pS_next {code : List (List Int)} (hv : validC code = true) {i j : Nat} (hi : i < code.length) (hj : j < code.length) :
    pS (meetT code (sumLen code / 2)) i (j + 1) = pS (meetT code (sumLen code / 2)) i j + ent (meetT code (sumLen code / 2)) i j := by
  obtain ⟨r, h1, h2, h3, _⟩ := meet_at hv hi hj
  unfold pS
  rw [getD_row h1, List.take_add_one, h3, List.sum_append]
  simp
theorem pS_b {code : List (List Int)} (hv : validC code = true) {i : Nat} (hi : i < code.length) : ∀ j, j ≤ code.length → 0 ≤ pS (meetT code (sumLen code / 2)) i j ∧ pS (meetT code (sumLen code / 2)) i j ≤ 240 * (j : Int)
  | 0, _ => by rw [pS_zero]; omega
  | j + 1, h => by
    have ih := pS_b hv hi j (by omega)
    obtain ⟨r, h1, h2, h3, h4, h5, _⟩ := meet_at hv hi (j := j) (by omega)
    rw [pS_next hv hi (by omega)]
    omega
theorem pS_all {code : List (List Int)} (hv : validC code = true) {i : Nat} (hi : i < code.length) : pS (meetT code (sumLen code / 2)) i code.length = rsum (meetT code (sumLen code / 2)) i := by
  obtain ⟨h1, h2⟩ := sq_row (meetT_sq hv _ (Nat.le_refl _)) hi
  unfold pS rsum
  rw [List.take_of_length_le (by omega)]
theorem pS_end {code : List (List Int)} (hv : validC code = true) {i : Nat} {xs : List Int} (hi : code[i]? = some xs) : pS (meetT code (sumLen code / 2)) i code.length + ent (meetT code (sumLen code / 2)) i i = (xs.length : Int) := by
  rw [pS_all hv (List.getElem?_eq_some_iff.1 hi).1]
  exact meet_row hv hi
end Go.Proofs.Ytnjojnnapdhijaa

namespace Go.Proofs
open Go.Shelf
def Try.sortI_ren : Go.Shelf.Ren := ⟨fun | 5 => 127 | 8 => 138 | 7 => 137 | 19 => 151 | 20 => 152 | 10 => 142 | 11 => 143 | 12 => 144 | 13 => 145 | 14 => 146 | 15 => 147 | 16 => 148 | 17 => 149 | 18 => 150 | 30 => 158 | 31 => 159 | 32 => 160 | 33 => 161 | 34 => 162 | 35 => 133 | 40 => 171 | n => n, fun | 23 => 34 | 25 => 2 | 3 => 3 | 32 => 92 | 22 => 34 | 0 => 0 | 44 => 145 | 46 => 44 | 4 => 4 | 36 => 138 | 35 => 137 | 41 => 142 | 5 => 5 | 9 => 9 | 53 => 153 | 57 => 157 | 63 => 168 | 64 => 169 | n => n, fun | n => n⟩
theorem Try.sortI : Go.Proofs.SlLaysM.n5 Try.prog Try.sortI_ren := {
  mixed := by kernel_rfl
  f5 := ⟨Try.f127.name, by decide, Try.func127.trans (congrArg some (by kernel_rfl))⟩
  f7 := ⟨Try.f137.name, by decide, Try.func137.trans (congrArg some (by kernel_rfl))⟩
  f8 := Try.func138.trans (congrArg some (by kernel_rfl))
  f10 := ⟨Try.f142.name, by decide, Try.func142.trans (congrArg some (by kernel_rfl))⟩
  f11 := ⟨Try.f143.name, by decide, Try.func143.trans (congrArg some (by kernel_rfl))⟩
  f12 := ⟨Try.f144.name, by decide, Try.func144.trans (congrArg some (by kernel_rfl))⟩
  f13 := ⟨Try.f145.name, by decide, Try.func145.trans (congrArg some (by kernel_rfl))⟩
  f14 := ⟨Try.f146.name, by decide, Try.func146.trans (congrArg some (by kernel_rfl))⟩
  f15 := ⟨Try.f147.name, by decide, Try.func147.trans (congrArg some (by kernel_rfl))⟩
  f16 := ⟨Try.f148.name, by decide, Try.func148.trans (congrArg some (by kernel_rfl))⟩
  f17 := ⟨Try.f149.name, by decide, Try.func149.trans (congrArg some (by kernel_rfl))⟩
  f18 := ⟨Try.f150.name, by decide, Try.func150.trans (congrArg some (by kernel_rfl))⟩
  f19 := Try.func151.trans (congrArg some (by kernel_rfl))
  f20 := Try.func152.trans (congrArg some (by kernel_rfl))
  f30 := ⟨Try.f158.name, by decide, Try.func158.trans (congrArg some (by kernel_rfl))⟩
  f31 := Try.func159.trans (congrArg some (by kernel_rfl))
  f32 := Try.func160.trans (congrArg some (by kernel_rfl))
  f33 := ⟨Try.f161.name, by decide, Try.func161.trans (congrArg some (by kernel_rfl))⟩
  f34 := ⟨Try.f162.name, by decide, Try.func162.trans (congrArg some (by kernel_rfl))⟩
  f35 := ⟨Try.f133.name, by decide, Try.func133.trans (congrArg some (by kernel_rfl))⟩
  f40 := ⟨Try.f171.name, by decide, Try.func171.trans (congrArg some (by kernel_rfl))⟩
  t0 := Try.underlying0
  a0 := Try.isAgg0
  z0 := Try.sizeOf0
  v0 := Try.zeroValue0
  t3 := Try.underlying3
  a3 := Try.isAgg3
  z3 := Try.sizeOf3
  v3 := Try.zeroValue3
  t4 := Try.underlying4
  a4 := Try.isAgg4
  z4 := Try.sizeOf4
  v4 := Try.zeroValue4
  t5 := Try.underlying5
  a5 := Try.isAgg5
  z5 := Try.sizeOf5
  v5 := Try.zeroValue5
  t9 := Try.underlying9
  a9 := Try.isAgg9
  z9 := Try.sizeOf9
  v9 := Try.zeroValue9
  t22 := Try.underlying34
  a22 := Try.isAgg34
  z22 := Try.sizeOf34
  v22 := Try.zeroValue34
  t23 := Try.underlying34
  a23 := Try.isAgg34
  z23 := Try.sizeOf34
  v23 := Try.zeroValue34
  t25 := Try.underlying2
  a25 := Try.isAgg2
  z25 := Try.sizeOf2
  v25 := Try.zeroValue2
  t32 := Try.underlying92
  a32 := Try.isAgg92
  z32 := Try.sizeOf92
  v32 := Try.zeroValue92
  t35 := Try.underlying137
  a35 := Try.isAgg137
  z35 := Try.sizeOf137
  v35 := Try.zeroValue137
  t36 := Try.underlying138
  a36 := Try.isAgg138
  z36 := Try.sizeOf138
  v36 := Try.zeroValue138
  t41 := Try.underlying142
  a41 := Try.isAgg142
  z41 := Try.sizeOf142
  v41 := Try.zeroValue142
  t44 := Try.underlying145
  a44 := Try.isAgg145
  z44 := Try.sizeOf145
  v44 := Try.zeroValue145
  t46 := Try.underlying44
  a46 := Try.isAgg44
  z46 := Try.sizeOf44
  v46 := Try.zeroValue44
  t53 := Try.underlying153
  a53 := Try.isAgg153
  z53 := Try.sizeOf153
  v53 := Try.zeroValue153
  t57 := Try.underlying157
  a57 := Try.isAgg157
  z57 := Try.sizeOf157
  v57 := Try.zeroValue157
  t63 := Try.underlying168
  a63 := Try.isAgg168
  z63 := Try.sizeOf168
  v63 := Try.zeroValue168
  t64 := Try.underlying169
  a64 := Try.isAgg169
  z64 := Try.sizeOf169
  v64 := Try.zeroValue169 }
end Go.Proofs
namespace Go.Proofs.Ytnjojnnapdhijaa
open Go.RowKit Go.Sort
set_option linter.unusedVariables false

theorem sort_any (A : Option Addr) (c base : Nat) (xs : List Int) (w : World) (h : OwnI w base A c xs) (hn : xs.length ≤ 1048576) :
    Calls Try.prog 127 #[.slice A xs.length c] w fun e w' => e = .returned (.tuple #[]) ∧ OwnI w' base A c (xs.mergeSort fun x y => decide (x ≤ y)) ∧ w.grownBy w' (blk A) := by
  have hl : (xs.mergeSort fun x y => decide (x ≤ y)).length = xs.length := List.length_mergeSort xs
  by_cases h0 : xs.length = 0
  · have hx : xs = [] := List.eq_nil_of_length_eq_zero h0
    subst hx
    refine (AnyM.slices_Sort_int_none Try.sortI A c w).mono ?_
    rintro e w' ⟨rfl, rfl⟩
    exact ⟨rfl, by simpa using h, World.grownBy.refl _ _⟩
  · rcases h.2 with ⟨hv, hz⟩ | ⟨g, cap, cur, hv, hb, hh, hnc, hcm, hcs, ht⟩
    · exact absurd hz h0
    · injection hv with hA hn' hc'
      subst hA hc'
      have hH : Holds (Value.int .i64) w g 0 xs.toArray := holds_of_blockI hh (by rw [Nat.mul_one] at ht; exact ht)
      refine (AnyM.slices_Sort_int Try.sortI g 0 c xs w hH (Array.getElem?_eq_some_iff.1 hh).1 (by omega)).mono ?_
      rintro e w' ⟨rfl, n, os, rfl⟩
      refine ⟨rfl, ?_, grownBy_sortedI _⟩
      have := ownsRow_sortedI (n := n) (os := os) hl hb hh hnc hcm hcs
      unfold OwnI
      rw [hl]
      exact this
end Go.Proofs.Ytnjojnnapdhijaa

namespace Go.Proofs.Ytnjojnnapdhijaa
open Go.RowKit
set_option linter.unusedVariables false

def ownB (xs : List Int) (k : Nat) : Bool := hasB xs ((k : Int) + 1) && hasB xs (-((k : Int) + 1))
/-- the numbers below m of the crossings that a curve meets twice -/
def ownCL (xs : List Int) (m : Nat) : List Int := ((List.range m).filter (ownB xs)).map Int.ofNat
theorem ownCL_yes {xs : List Int} {k : Nat} (h : ownB xs k = true) : ownCL xs (k + 1) = ownCL xs k ++ [(k : Int)] := by
  unfold ownCL
  rw [List.range_succ, List.filter_append, List.map_append]
  simp [h]
theorem ownCL_no {xs : List Int} {k : Nat} (h : ownB xs k = false) : ownCL xs (k + 1) = ownCL xs k := by
  unfold ownCL
  rw [List.range_succ, List.filter_append, List.map_append]
  simp [h]
theorem ownCL_len (xs : List Int) (m : Nat) : (ownCL xs m).length ≤ m := by
  unfold ownCL
  rw [List.length_map]
  have := List.length_filter_le (ownB xs) (List.range m)
  rw [List.length_range] at this
  exact this

set_option maxRecDepth 100000 in
set_option maxHeartbeats 4000000 in
theorem specOwn_yes (A : Option Addr) (c T : Nat) (code : List (List Int)) (jn : Nat) (xs : List Int) (w : World) (hc : RC w T A code) (hn : code.length + sumLen code ≤ 1048576) (hj : code[jn]? = some xs) (hx : xs.length ≤ 1048576) (h0 : curveC code (jn : Int) = 0) :
    Calls Try.prog 39 #[.slice A code.length c, .int .i64 (jn : Int)] w (RetIC w (ownCL xs (sumLen code / 2)) 0) := by
  have hjl : jn < code.length := (List.getElem?_eq_some_iff.1 hj).1
  have HC0 := hide h0
  obtain ⟨M, hM⟩ : ∃ M, M = sumLen code / 2 := ⟨_, rfl⟩
  have hMl : M ≤ 1048576 := by omega
  have HM := hide hM
  go_enter Try.func39, Try.ntmps39
  go_wp2_with fail
  refine (l15Code_any _ _ T code _ _ hc hn).mono ?_
  rw [h0]
  rintro e w1 ⟨rfl, hb1⟩
  have hc1 := hc.below hb1
  have he : OwnI (w1.alloc (.cells #[] 2)) w.heap.size (some ⟨w1.heap.size, 0, none⟩) 0 [] := OwnI.new w1 [] #[] rfl hb1.size (by simp)
  clear h0 hM
  go_wp2_with fail
  go_loopw [7, 8] (fun o i wr => ∃ (k : Nat) (A1 : Option Addr) (c1 : Nat) (zs : List Int), k ≤ M ∧ i = .int .i64 ((k : Int) + 1) ∧ o = .slice A1 zs.length c1 ∧ Hid (zs = ownCL xs k) ∧ OwnI wr w.heap.size A1 c1 zs ∧ Below w.heap.size w wr) (fun _ i _ => M + 1 - (intOf i).toNat)
  case atStart => exact ⟨0, _, 0, [], Nat.zero_le _, by go_num, rfl, hide rfl, he, hb1.alloc hb1.size _⟩
  case round =>
    obtain ⟨k, A1, c1, zs, hk, rfl, rfl, hzs, own, hB⟩ := hrel
    clear he
    have hz := hB.size
    have hcr := hc.below hB
    have hzl : zs.length ≤ k := by rw [hzs.out]; exact ownCL_len _ _
    by_cases hlt : k < M
    · obtain ⟨n, hnk⟩ : ∃ n : Int, n = (k : Int) + 1 := ⟨_, rfl⟩
      have hg : n ≤ ((sumLen code / 2 : Nat) : Int) := by have := HM.out; omega
      have wp : IntKind.i64.wrap (n + 1) = n + 1 := by rw [IntKind.wrap_i64]; omega
      obtain ⟨b, off, B, d, ys, rfl, hb, hy, hcc, hd1, hd2, hR⟩ := hcr.row hjl
      obtain rfl : xs = ys := by rw [hj] at hy; injection hy
      have hj0 : (0 : Int) ≤ (jn : Int) := by omega
      have hjc : (jn : Int) < (code.length : Int) := by omega
      have wn : IntKind.i64.wrap (-n) = -n := by rw [IntKind.wrap_i64]; omega
      have wm : IntKind.i64.wrap (n - 1) = (k : Int) := by rw [IntKind.wrap_i64]; omega
      have HNK := hide hnk
      rw [← hnk]
      clear hy hnk
      cases h1 : hasB xs n
      · have HN : Hid (zs = ownCL xs (k + 1)) := hide (by rw [ownCL_no (by unfold ownB; rw [← HNK.out, h1]; rfl)]; exact hzs.out)
        go_wp2_with (first | (go_at_call 88; refine (l15Many_any _ _ T code _ hcr hn).mono ?_; rintro e w' ⟨rfl, rfl⟩) | (go_at_call 92; refine (l00Has_any _ _ xs _ _ hR hx).mono ?_; rintro e w' ⟨rfl, rfl⟩))
        go_roundw
        case rel => exact ⟨k + 1, A1, c1, zs, by omega, by rw [HNK.out]; go_num, rfl, HN, own, hB⟩
        case measure => have := HNK.out; simp [intOf]; omega
      · cases h2 : hasB xs (-n)
        · have HN : Hid (zs = ownCL xs (k + 1)) := hide (by rw [ownCL_no (by unfold ownB; rw [← HNK.out, h1, h2]; rfl)]; exact hzs.out)
          go_wp2_with (first | (go_at_call 88; refine (l15Many_any _ _ T code _ hcr hn).mono ?_; rintro e w' ⟨rfl, rfl⟩) | (go_at_call 92; refine (l00Has_any _ _ xs _ _ hR hx).mono ?_; rintro e w' ⟨rfl, rfl⟩))
          go_roundw
          case rel => exact ⟨k + 1, A1, c1, zs, by omega, by rw [HNK.out]; go_num, rfl, HN, own, hB⟩
          case measure => have := HNK.out; simp [intOf]; omega
        · have HN : Hid (zs ++ [(k : Int)] = ownCL xs (k + 1)) := hide (by rw [ownCL_yes (by unfold ownB; rw [← HNK.out, h1, h2]; rfl), hzs.out])
          have hr1 : RI (wr.alloc (.cells #[.int .i64 (k : Int)] 2)) (some ⟨wr.heap.size, 0, none⟩) [(k : Int)] := (OwnI.new (base := w.heap.size) wr [(k : Int)] #[.int .i64 (k : Int)] rfl hz (by simp [maxLen])).rd
          go_wp2_with (first | (go_at_call 88; refine (l15Many_any _ _ T code _ hcr hn).mono ?_; rintro e w' ⟨rfl, rfl⟩) | (go_at_call 92; refine (l00Has_any _ _ xs _ _ hR hx).mono ?_; rintro e w' ⟨rfl, rfl⟩) | (at_builtin; refine wpList_append_ints rfl (.tmp 37) (.tmp 40) rfl w.heap.size A1 c1 zs rfl (own.alloc _) _ 1 [(k : Int)] rfl hr1 (by simp; omega) (by simp; omega) _ rfl ?_; intro A2 c2 w2 own2 hg2 hb2))
          go_roundw
          case rel => exact ⟨k + 1, A2, c2, _, by omega, by rw [HNK.out]; go_num, by simp, HN, own2, (hB.alloc hz _).grown hg2 (by simp; omega) (fun k hk => (own.ge hk).1)⟩
          case measure => have := HNK.out; simp [intOf]; omega
    · have hzs' := hzs.out
      rw [show k = M by omega] at hzs'
      have hg : ¬ ((k : Int) + 1 ≤ ((sumLen code / 2 : Nat) : Int)) := by have := HM.out; omega
      have HZ : Hid (zs = ownCL xs (sumLen code / 2)) := hide (by rw [hzs', HM.out])
      clear hzs hzs'
      go_wp2_with (go_at_call 88; refine (l15Many_any _ _ T code _ hcr hn).mono ?_; rintro e w' ⟨rfl, rfl⟩)
      refine bodyPost_ret (v := .tuple #[.slice A1 zs.length c1, .int .i64 0]) (by simp [results, Try.results39, go_sem]) rfl ?_
      rw [← HZ.out]
      exact ⟨A1, c1, rfl, own, hB⟩
end Go.Proofs.Ytnjojnnapdhijaa

namespace Go.Proofs.Ytnjojnnapdhijaa
open Go.RowKit
set_option linter.unusedVariables false

theorem asc_ext : ∀ (l m : List Int), l.Pairwise (· < ·) → m.Pairwise (· < ·) → (∀ x, x ∈ l ↔ x ∈ m) → l = m
  | [], [], _, _, _ => rfl
  | [], b :: m, _, _, h => absurd ((h b).2 List.mem_cons_self) (by simp)
  | a :: l, [], _, _, h => absurd ((h a).1 List.mem_cons_self) (by simp)
  | a :: l, b :: m, h1, h2, h => by
    rw [List.pairwise_cons] at h1 h2
    have e : a = b := by
      rcases List.mem_cons.1 ((h a).1 List.mem_cons_self) with e | e
      · exact e
      · rcases List.mem_cons.1 ((h b).2 List.mem_cons_self) with e2 | e2
        · exact e2.symm
        · have h3 := h1.1 b e2
          have h4 := h2.1 a e
          omega
    subst e
    congr 1
    refine asc_ext l m h1.2 h2.2 fun x => ⟨fun hx => ?_, fun hx => ?_⟩
    · rcases List.mem_cons.1 ((h x).1 (List.mem_cons_of_mem _ hx)) with e | e
      · have h3 := h1.1 x hx
        omega
      · exact e
    · rcases List.mem_cons.1 ((h x).2 (List.mem_cons_of_mem _ hx)) with e | e
      · have h3 := h2.1 x hx
        omega
      · exact e
/-- the crossings that a curve meets twice, in the order of the curve -/
def ownI (xs : List Int) : List Int := (xs.filter fun x => decide (0 < x) && hasB xs (-x)).map fun x => x - 1
theorem ownCL_mem {xs : List Int} {m : Nat} {y : Int} : y ∈ ownCL xs m ↔ 0 ≤ y ∧ y < (m : Int) ∧ (y + 1) ∈ xs ∧ -(y + 1) ∈ xs := by
  unfold ownCL
  rw [List.mem_map]
  constructor
  · rintro ⟨k, hk, rfl⟩
    obtain ⟨h1, h2⟩ := List.mem_filter.1 hk
    have h1 := List.mem_range.1 h1
    simp [ownB, hasB] at h2
    refine ⟨by simp, by simpa using h1, ?_, ?_⟩
    · exact h2.1
    · have := h2.2
      rwa [show -(Int.ofNat k + 1) = -((k : Int) + 1) by rfl]
  · rintro ⟨h1, h2, h3, h4⟩
    refine ⟨y.toNat, List.mem_filter.2 ⟨List.mem_range.2 (by omega), ?_⟩, by simp; omega⟩
    have e : ((y.toNat : Nat) : Int) = y := by omega
    simp [ownB, hasB, e]
    exact ⟨h3, h4⟩
theorem ownCL_asc (xs : List Int) (m : Nat) : (ownCL xs m).Pairwise (· < ·) := by
  unfold ownCL
  rw [List.pairwise_map]
  refine List.Pairwise.imp ?_ (List.Pairwise.filter _ List.pairwise_lt_range)
  intro a b h
  simpa using h
theorem ownI_sorted {code : List (List Int)} (hv : validC code = true) {i : Nat} {xs : List Int} (hi : code[i]? = some xs) : (ownI xs).mergeSort (fun x y => decide (x ≤ y)) = ownCL xs (sumLen code / 2) := by
  obtain ⟨N, g1, g2, g3, g4⟩ := validC_true hv
  have eN : sumLen code / 2 = N := by omega
  have hsub : ∀ x ∈ xs, x ∈ code.flatten := fun x hx => List.mem_flatten.2 ⟨xs, List.mem_of_getElem? hi, hx⟩
  have hxn : xs.Nodup := by
    have h1 := g4.1
    unfold List.Nodup at h1 ⊢
    exact (List.pairwise_flatten.1 h1).1 xs (List.mem_of_getElem? hi)
  have hmem : ∀ y, y ∈ ownI xs ↔ y ∈ ownCL xs N := fun y => by
    rw [ownCL_mem]
    unfold ownI
    rw [List.mem_map]
    constructor
    · rintro ⟨x, hx, rfl⟩
      obtain ⟨h1, h2⟩ := List.mem_filter.1 hx
      simp [hasB] at h2
      have h3 := g4.2 x (hsub x h1)
      refine ⟨by omega, by omega, by rw [show x - 1 + 1 = x by omega]; exact h1, by rw [show x - 1 + 1 = x by omega]; exact h2.2⟩
    · rintro ⟨h1, h2, h3, h4⟩
      refine ⟨y + 1, List.mem_filter.2 ⟨h3, ?_⟩, by omega⟩
      simp [hasB]
      exact ⟨by omega, h4⟩
  have hnd : (ownI xs).Nodup := by
    unfold ownI List.Nodup
    rw [List.pairwise_map]
    refine List.Pairwise.imp ?_ (List.Pairwise.filter _ hxn)
    intro a b h
    omega
  rw [eN]
  have hperm := List.mergeSort_perm (ownI xs) (fun x y => decide (x ≤ y))
  refine asc_ext _ _ ?_ (ownCL_asc _ _) fun y => by rw [hperm.mem_iff]; exact hmem y
  have h1 := List.pairwise_mergeSort (le := fun x y : Int => decide (x ≤ y)) (fun a b c => by simp; omega) (fun a b => by simp; omega) (ownI xs)
  have h2 : ((ownI xs).mergeSort (fun x y => decide (x ≤ y))).Nodup := hperm.nodup_iff.2 hnd
  unfold List.Nodup at h2
  have h3 := List.Pairwise.and h1 h2
  refine List.Pairwise.imp ?_ h3
  intro a b h
  simp at h
  omega
theorem ownI_len (xs : List Int) : (ownI xs).length ≤ xs.length := by
  unfold ownI
  rw [List.length_map]
  exact List.length_filter_le _ _
theorem ownI_snoc (ys xs : List Int) (x : Int) : ((ys ++ [x]).filter fun x => decide (0 < x) && hasB xs (-x)).map (fun x => x - 1) = (ys.filter fun x => decide (0 < x) && hasB xs (-x)).map (fun x => x - 1) ++ (if (decide (0 < x) && hasB xs (-x)) = true then [x - 1] else []) := by
  rw [List.filter_append, List.map_append]
  congr 1
  by_cases h : (decide (0 < x) && hasB xs (-x)) = true
  · simp [h]
  · simp [h]
end Go.Proofs.Ytnjojnnapdhijaa

namespace Go.Proofs.Ytnjojnnapdhijaa
open Go.RowKit
set_option linter.unusedVariables false

set_option maxRecDepth 100000 in
theorem specOwn_no (A : Option Addr) (c T : Nat) (code : List (List Int)) (j : Int) (w : World) (hc : RC w T A code) (hn : code.length + sumLen code ≤ 1048576) (h0 : curveC code j ≠ 0) :
    Calls Try.prog 39 #[.slice A code.length c, .int .i64 j] w (RetIC w [] (curveC code j)) := by
  obtain ⟨q, hq⟩ : ∃ q, q = curveC code j := ⟨_, rfl⟩
  have h1 : (q != 0) = true := by rw [hq]; simpa using h0
  have HQ := hide hq
  clear h0
  go_enter Try.func39, Try.ntmps39
  go_wp2_with fail
  refine (l15Code_any _ _ T code _ _ hc hn).mono ?_
  rw [← hq]
  rintro e w1 ⟨rfl, hb1⟩
  clear hq
  go_wp2_with fail
  refine bodyPost_ret (v := .tuple #[.slice none 0 0, .int .i64 q]) (by simp [results, Try.results39, go_sem]) rfl ?_
  rw [← HQ.out]
  exact ⟨none, 0, rfl, OwnI.nil _ _, hb1⟩
end Go.Proofs.Ytnjojnnapdhijaa

namespace Go.Proofs.Ytnjojnnapdhijaa
open Go.RowKit
set_option linter.unusedVariables false

def ownTo (xs : List Int) (k : Nat) : List Int := ((xs.take k).filter fun x => decide (0 < x) && hasB xs (-x)).map fun x => x - 1
theorem ownTo_next {xs : List Int} {k : Nat} {x : Int} (hx : xs[k]? = some x) : ownTo xs (k + 1) = ownTo xs k ++ (if (decide (0 < x) && hasB xs (-x)) = true then [x - 1] else []) := by
  unfold ownTo
  rw [List.take_add_one, hx]
  exact ownI_snoc _ _ _
theorem ownTo_len (xs : List Int) (k : Nat) : (ownTo xs k).length ≤ k := by
  unfold ownTo
  rw [List.length_map]
  have h1 := List.length_filter_le (fun x => decide (0 < x) && hasB xs (-x)) (xs.take k)
  rw [List.length_take] at h1
  omega
theorem ownTo_all {xs : List Int} {k : Nat} (h : xs.length ≤ k) : ownTo xs k = ownI xs := by
  unfold ownTo ownI
  rw [List.take_of_length_le h]

set_option maxRecDepth 100000 in
set_option maxHeartbeats 4000000 in
theorem implOwn_any (A : Option Addr) (c : Nat) (xs : List Int) (w : World) (h : RI w A xs) (hn : xs.length ≤ 1048576) (hb0 : ∀ x ∈ xs, -9223372036854775808 < x ∧ x ≤ 9223372036854775807) :
    Calls Try.prog 91 #[.slice A xs.length c] w (RetI w ((ownI xs).mergeSort fun x y => decide (x ≤ y))) := by
  have HB := hide hb0
  have he : OwnI (w.alloc (.cells #[] 2)) w.heap.size (some ⟨w.heap.size, 0, none⟩) 0 [] := OwnI.empty w (Nat.le_refl _)
  clear hb0
  go_enter Try.func91, Try.ntmps91
  go_wp2_with fail
  go_loopw [3, 9] (fun o i wr => ∃ (k : Nat) (A1 : Option Addr) (c1 : Nat) (zs : List Int), k ≤ xs.length ∧ i = .int .i64 k ∧ o = .slice A1 zs.length c1 ∧ Hid (zs = ownTo xs k) ∧ OwnI wr w.heap.size A1 c1 zs ∧ Below w.heap.size w wr) (fun _ i _ => xs.length - (intOf i).toNat)
  case atStart => exact ⟨0, _, 0, [], Nat.zero_le _, rfl, rfl, hide (by simp [ownTo]), he, (Below.refl _ _).alloc (Nat.le_refl _) _⟩
  case round =>
    clear he
    obtain ⟨k, A1, c1, zs, hk, rfl, rfl, hzs, own, hB⟩ := hrel
    have hz := hB.size
    have hr := h.below hB
    have hzl : zs.length ≤ k := by rw [hzs.out]; exact ownTo_len _ _
    by_cases hlt : k < xs.length
    · obtain ⟨b, off, x, rfl, hb, hx, hcx⟩ := hr.at_ hlt
      obtain ⟨g5, g6⟩ := HB.out x (List.mem_of_getElem? hx)
      have hnx := ownTo_next hx
      have wn : IntKind.i64.wrap (-x) = -x := by rw [IntKind.wrap_i64]; omega
      by_cases hx0 : 0 < x
      · have wm : IntKind.i64.wrap (x - 1) = x - 1 := by rw [IntKind.wrap_i64]; omega
        cases hh : hasB xs (-x)
        · have HN : Hid (zs = ownTo xs (k + 1)) := hide (by rw [hnx, hh, if_neg (by simp), List.append_nil]; exact hzs.out)
          clear hx hnx
          go_wp2_with (go_at_call 126; refine (slContains_any _ _ xs _ _ hr hn).mono ?_; rw [hh]; rintro e w' ⟨rfl, rfl⟩)
          go_roundw
          case rel => exact ⟨k + 1, A1, c1, zs, by omega, by go_num, rfl, HN, own, hB⟩
          case measure => simp [intOf]; omega
        · have HN : Hid (zs ++ [x - 1] = ownTo xs (k + 1)) := hide (by rw [hnx, hh, if_pos (by simp [hx0]), ← hzs.out])
          clear hx hnx
          go_wp2_with (first
            | (go_at_call 126; refine (slContains_any _ _ xs _ _ hr hn).mono ?_; rw [hh]; rintro e w' ⟨rfl, rfl⟩)
            | (at_builtin; refine wpList_append_ints rfl (.tmp 21) (.tmp 24) rfl w.heap.size A1 c1 zs rfl (own.alloc _) (some ⟨wr.heap.size, 0, none⟩) 1 [x - 1] rfl (OwnI.new (base := 0) wr [x - 1] #[.int .i64 (x - 1)] rfl (Nat.zero_le _) (by simp [maxLen])).rd (by simp; omega) (by simp; omega) (zs ++ [x - 1]) rfl ?_; intro A3 c3 w3 own3 hg3 hb3))
          go_roundw
          case rel => exact ⟨k + 1, A3, c3, zs ++ [x - 1], by omega, by go_num, by simp, HN, own3, (hB.alloc hz _).grown hg3 (by simp; omega) (fun q hq => (own.ge hq).1)⟩
          case measure => simp [intOf]; omega
      · have HN : Hid (zs = ownTo xs (k + 1)) := hide (by rw [hnx, if_neg (by simp [hx0]), List.append_nil]; exact hzs.out)
        clear hx hnx
        go_wp2_with fail
        go_roundw
        case rel => exact ⟨k + 1, A1, c1, zs, by omega, by go_num, rfl, HN, own, hB⟩
        case measure => simp [intOf]; omega
    · have hzs' := hzs.out
      rw [ownTo_all (by omega)] at hzs'
      have HZ := hide hzs'
      have hzl2 : zs.length ≤ 1048576 := by omega
      have hml : (zs.mergeSort fun x y => decide (x ≤ y)).length = zs.length := List.length_mergeSort zs
      have HML := hide hml
      clear hzs hzs' hml
      go_wp2_with fail
      refine (sort_any _ _ _ zs _ own hzl2).mono ?_
      rintro e w2 ⟨rfl, own2, hg2⟩
      have hB2 := hB.grown hg2 hz (fun q hq => (own.ge hq).1)
      go_wp2_with fail
      go_ret
      rw [← HZ.out]
      exact ⟨A1, c1, congrArg (fun n => Ending.returned (Value.slice A1 n c1)) HML.out.symm, own2, hB2⟩

def ownR (code : List (List Int)) (j : Int) : List Int × Int := if curveC code j = 0 then (ownCL (code.getD j.toNat []) (sumLen code / 2), 0) else ([], curveC code j)
theorem ownR_len (code : List (List Int)) (j : Int) (hn : code.length + sumLen code ≤ 1048576) : (ownR code j).1.length ≤ 1048576 := by
  unfold ownR
  split
  · have := ownCL_len (code.getD j.toNat []) (sumLen code / 2)
    dsimp only
    omega
  · simp
theorem curveC_zero' {code : List (List Int)} {j : Int} (h : curveC code j = 0) : validC code = true ∧ ∃ n : Nat, j = (n : Int) ∧ n < code.length := by
  unfold curveC at h
  split at h
  · rename_i hv
    split at h
    · rename_i hi
      obtain ⟨h1, h2⟩ := inB_true.1 hi
      exact ⟨hv, j.toNat, by omega, by omega⟩
    · cases h
  · cases h
theorem implOwnCrossings_any (A : Option Addr) (c T : Nat) (code : List (List Int)) (j : Int) (w : World) (hc : RC w T A code) (hn : code.length + sumLen code ≤ 1048576) :
    Calls Try.prog 38 #[.slice A code.length c, .int .i64 j] w (RetIC w (ownR code j).1 (ownR code j).2) := by
  have hr1 : RI (w.alloc (.cells #[.int .i64 j] 2)) (some ⟨w.heap.size, 0, none⟩) [j] := (OwnI.new (base := 0) w [j] #[.int .i64 j] rfl (Nat.zero_le _) (by simp [maxLen])).rd
  have ha : Below w.heap.size w (w.alloc (.cells #[.int .i64 j] 2)) := (Below.refl _ _).alloc (Nat.le_refl _) _
  have hca := hc.below ha
  by_cases h0 : curveC code j = 0
  · obtain ⟨hv, n, rfl, hjl⟩ := curveC_zero' h0
    have hxs : code[n]? = some code[n] := List.getElem?_eq_getElem hjl
    have HW := hide (valid_wide hv code[n] (List.getElem_mem hjl))
    obtain ⟨zs, hzs⟩ : ∃ zs, zs = (ownI code[n]).mergeSort fun x y => decide (x ≤ y) := ⟨_, rfl⟩
    have HV : Hid (ownR code (n : Int) = (zs, 0)) := hide (by
      unfold ownR
      rw [if_pos h0, show (n : Int).toNat = n by omega, getD_row hxs, hzs, ownI_sorted hv hxs])
    have HX := hide hxs
    have HZ := hide hzs
    clear hv hxs hzs
    go_enter Try.func38, Try.ntmps38
    go_wp2_with fail
    refine (codedCode_one _ _ _ _ T code _ _ hca hr1 hn).mono ?_
    rw [h0]
    rintro e w1 ⟨rfl, hb1⟩
    have hB1 := ha.trans (hb1.mono ha.size)
    obtain ⟨b, off, B, d, ys, rfl, hb, hy, hce, hd1, hd2, hr⟩ := (hc.below hB1).row hjl
    obtain rfl : ys = code[n] := by have := HX.out; rw [hy] at this; injection this
    have hxl := sumLen_row hy
    have hlt : (n : Int) < (code.length : Int) := by omega
    have hz1 := hB1.size
    clear hy h0
    go_wp2_with fail
    refine (implOwn_any _ _ _ _ hr (by omega) HW.out).mono ?_
    rw [← HZ.out]
    rintro e w2 ⟨A2, c2, rfl, own, hb2⟩
    have hB2 := hB1.trans (hb2.mono hz1)
    go_wp2_with fail
    refine bodyPost_ret (v := .tuple #[.slice A2 zs.length c2, .int .i64 0]) (by simp [results, Try.results38, go_sem]) rfl ?_
    rw [HV.out]
    exact ⟨A2, c2, rfl, own.mono hz1, hB2⟩
  · obtain ⟨q, hq⟩ : ∃ q, q = curveC code j := ⟨_, rfl⟩
    have HV : Hid (ownR code j = ([], q)) := hide (by unfold ownR; rw [if_neg h0, hq])
    have hq0 : (q != 0) = true := by rw [hq]; simpa using h0
    clear h0
    go_enter Try.func38, Try.ntmps38
    go_wp2_with fail
    refine (codedCode_one _ _ _ _ T code _ _ hca hr1 hn).mono ?_
    rw [← hq]
    rintro e w1 ⟨rfl, hb1⟩
    have hB1 := ha.trans (hb1.mono ha.size)
    clear hq
    go_wp2_with fail
    refine bodyPost_ret (v := .tuple #[.slice none 0 0, .int .i64 q]) (by simp [results, Try.results38, go_sem]) rfl ?_
    rw [HV.out]
    exact ⟨none, 0, rfl, OwnI.nil _ _, hB1⟩
theorem specOwnCrossings_any (A : Option Addr) (c T : Nat) (code : List (List Int)) (j : Int) (w : World) (hc : RC w T A code) (hn : code.length + sumLen code ≤ 1048576) :
    Calls Try.prog 39 #[.slice A code.length c, .int .i64 j] w (RetIC w (ownR code j).1 (ownR code j).2) := by
  by_cases h0 : curveC code j = 0
  · obtain ⟨hv, n, rfl, hjl⟩ := curveC_zero' h0
    have hxs : code[n]? = some code[n] := List.getElem?_eq_getElem hjl
    have hxl := sumLen_row hxs
    have e : ownR code (n : Int) = (ownCL code[n] (sumLen code / 2), 0) := by
      unfold ownR
      rw [if_pos h0, show (n : Int).toNat = n by omega, getD_row hxs]
    rw [e]
    exact specOwn_yes A c T code n code[n] w hc hn hxs (by omega) h0
  · have e : ownR code j = ([], curveC code j) := by unfold ownR; rw [if_neg h0]
    rw [e]
    exact specOwn_no A c T code j w hc hn h0
end Go.Proofs.Ytnjojnnapdhijaa
