/-
  Plain law: the powers of the value of a loop, shifted; sums that stay small; lists written at given places. No program is named here. Conditions: none.
-/
import Derived.Test.YtjlifbdaieblpaaGreatPolyMath
namespace Go.Proofs.YtjlifbdaieblpaaGreat
open Go.RowKit
set_option linter.unusedVariables false

/-- shifted -/
def shL (p : Int) (q : Int × List Int) : Int × List Int := if q.2 = [] then (0, []) else (q.1 + p, q.2)
theorem trimS_sh (p l : Int) (xs : List Int) : trimS (l + p) xs = shL p (trimS l xs) := by
  unfold trimS shL
  by_cases h : dropZ (rdropZ xs) = []
  · rw [if_pos h, if_pos h]; simp
  · rw [if_neg h, if_neg h]
    simp only
    rw [if_neg h]
    congr 1
    omega
theorem mulP_sh (p : Int) (q : Int × List Int) (l1 : Int) (ys : List Int) : mulP (shL p q).1 (shL p q).2 l1 ys = shL p (mulP q.1 q.2 l1 ys) := by
  by_cases h : q.2 = []
  · have e : shL p q = (0, []) := by unfold shL; rw [if_pos h]
    rw [e, h]
    simp [mulP, shL]
  · have e : shL p q = (q.1 + p, q.2) := by unfold shL; rw [if_neg h]
    rw [e]
    unfold mulP
    split
    · simp [shL]
    · rw [show q.1 + p + l1 = q.1 + l1 + p from by omega]
      exact trimS_sh _ _ _
/-- the value of a loop, and its powers -/
def loopP (m : Nat) : Int × List Int := match m with
  | 0 => (0, [1])
  | m + 1 => mulP (loopP m).1 (loopP m).2 (-2) [-1, 0, 0, 0, -1]
def summP (p : Int) (m : Nat) : Int × List Int := match m with
  | 0 => (p, [1])
  | m + 1 => mulP (summP p m).1 (summP p m).2 (-2) [-1, 0, 0, 0, -1]
theorem summ_sh (p : Int) : ∀ m, summP p m = shL p (loopP m)
  | 0 => by unfold summP loopP shL; simp
  | m + 1 => by
    show mulP (summP p m).1 (summP p m).2 _ _ = shL p (mulP (loopP m).1 (loopP m).2 _ _)
    rw [summ_sh p m, mulP_sh]
theorem dropZ_idem (xs : List Int) : dropZ (dropZ xs) = dropZ xs := by
  induction xs with
  | nil => rfl
  | cons x t ih =>
    by_cases h : x = 0
    · simp [dropZ, h, ih]
    · simp [dropZ, h]
theorem rdropZ_idem (xs : List Int) : rdropZ (rdropZ xs) = rdropZ xs := by
  induction xs with
  | nil => rfl
  | cons x t ih =>
    by_cases h : rdropZ t = []
    · by_cases hx : x = 0
      · simp [rdropZ, h, hx]
      · simp [rdropZ, h, hx]
    · have e : rdropZ (x :: t) = x :: rdropZ t := by simp [rdropZ, h]
      rw [e]
      have e2 : rdropZ (x :: rdropZ t) = x :: rdropZ (rdropZ t) := by
        have h3 : ¬ rdropZ (rdropZ t) = [] := by rw [ih]; exact h
        rw [rdropZ, if_neg h3]
      rw [e2, ih]
theorem trimS_snd (l : Int) (xs : List Int) : (trimS l xs).2 = dropZ (rdropZ xs) := by
  unfold trimS
  split
  · rename_i h; rw [h]
  · rfl
theorem trimI_snd (l : Int) (xs : List Int) : (trimI l xs).2 = rdropZ (dropZ xs) := by
  unfold trimI
  split
  · rename_i h; rw [h]
  · rfl
theorem drop_comm (xs : List Int) : rdropZ (dropZ xs) = dropZ (rdropZ xs) := by
  rw [← trimI_snd 0, ← trim_eq, trimS_snd]
theorem trimS_idem (l : Int) (xs : List Int) : trimS (trimS l xs).1 (trimS l xs).2 = trimS l xs := by
  have h2 := trimS_snd l xs
  have h3 : rdropZ (dropZ (rdropZ xs)) = dropZ (rdropZ xs) := by rw [drop_comm, rdropZ_idem]
  by_cases h : dropZ (rdropZ xs) = []
  · have e : trimS l xs = (0, []) := by unfold trimS; rw [if_pos h]
    rw [e]
    simp [trimS, dropZ, rdropZ]
  · have e : trimS l xs = (l + ((rdropZ xs).length - (dropZ (rdropZ xs)).length : Nat), dropZ (rdropZ xs)) := by unfold trimS; rw [if_neg h]
    rw [e]
    simp only
    generalize hl : l + (((rdropZ xs).length - (dropZ (rdropZ xs)).length : Nat) : Int) = l'
    unfold trimS
    rw [h3, dropZ_idem, if_neg h]
    simp
/-- numbers of the machine -/
def InW (xs : List Int) : Prop := ∀ x ∈ xs, wrap64 x = x
theorem wrap_idem (x : Int) : wrap64 (wrap64 x) = wrap64 x := by unfold wrap64; omega
theorem dropZ_mem {x : Int} : ∀ {xs : List Int}, x ∈ dropZ xs → x ∈ xs
  | [], h => h
  | y :: t, h => by
    by_cases hy : y = 0
    · simp only [dropZ, hy, if_true] at h
      exact List.mem_cons_of_mem _ (dropZ_mem h)
    · simpa [dropZ, hy] using h
theorem rdropZ_mem {x : Int} : ∀ {xs : List Int}, x ∈ rdropZ xs → x ∈ xs
  | [], h => h
  | y :: t, h => by
    unfold rdropZ at h
    split at h
    · split at h
      · cases h
      · rw [List.mem_singleton] at h
        rw [h]
        exact List.mem_cons_self
    · rcases List.mem_cons.1 h with rfl | h
      · exact List.mem_cons_self
      · exact List.mem_cons_of_mem _ (rdropZ_mem h)
theorem trimS_inW {l : Int} {xs : List Int} (h : InW xs) : InW (trimS l xs).2 := by
  rw [trimS_snd]
  exact fun x hx => h x (rdropZ_mem (dropZ_mem hx))
theorem addAt_inW {out xs : List Int} {off : Nat} (h : InW out) : InW (addAt out off xs) := by
  intro x hx
  obtain ⟨j, hj⟩ := List.mem_iff_getElem?.1 hx
  rw [addAt_at] at hj
  cases ho : out[j]? with
  | none => rw [ho] at hj; simp at hj
  | some y =>
    rw [ho, Option.map_some] at hj
    injection hj with hj
    rw [← hj]
    split
    · exact wrap_idem _
    · exact h y (List.mem_iff_getElem?.2 ⟨j, ho⟩)
theorem mulTo_inW (n : Nat) (xs ys : List Int) : ∀ i, InW (mulTo n xs ys i)
  | 0 => by
    intro x hx
    simp only [mulTo, List.mem_replicate] at hx
    rw [hx.2]; unfold wrap64; omega
  | i + 1 => addAt_inW (mulTo_inW n xs ys i)
theorem loop_norm : ∀ m, trimS (loopP m).1 (loopP m).2 = loopP m ∧ InW (loopP m).2
  | 0 => by
    refine ⟨by simp [loopP, trimS, dropZ, rdropZ], ?_⟩
    intro x hx
    simp only [loopP, List.mem_singleton] at hx
    rw [hx]; unfold wrap64; omega
  | m + 1 => by
    show trimS (mulP _ _ _ _).1 (mulP _ _ _ _).2 = mulP _ _ _ _ ∧ InW (mulP _ _ _ _).2
    unfold mulP
    split
    · refine ⟨by simp [trimS, dropZ, rdropZ], ?_⟩
      intro x hx
      cases hx
    · exact ⟨trimS_idem _ _, trimS_inW (mulTo_inW _ _ _ _)⟩
theorem roww_one {xs : List Int} (h : InW xs) : rowW 1 xs = xs := by
  unfold rowW
  have e : xs.map (fun y => wrap64 (1 * y)) = xs.map id := List.map_congr_left fun y hy => by rw [Int.one_mul]; exact h y hy
  rw [e, List.map_id]
theorem shift_loop (p : Int) (m : Nat) : shiftP (loopP m).1 (loopP m).2 p 1 = summP p m := by
  obtain ⟨h1, h2⟩ := loop_norm m
  unfold shiftP
  rw [roww_one h2, trimS_sh, h1, summ_sh]

/-- a polynomial within bounds -/
def BK (K : Int) (q : Int × List Int) : Prop := -K ≤ q.1 ∧ q.1 ≤ K ∧ q.1 + q.2.length ≤ K
theorem trimS_bk {K l : Int} {xs : List Int} (h0 : 0 ≤ K) (h1 : -K ≤ l) (h2 : l + xs.length ≤ K) : BK K (trimS l xs) := by
  have e1 := dropZ_le (rdropZ xs)
  have e2 := rdropZ_le xs
  unfold trimS
  split
  · unfold BK; simp; omega
  · unfold BK
    simp only
    omega
theorem mulP_bk {K0 K1 : Int} {q0 q1 : Int × List Int} (h0 : BK K0 q0) (h1 : BK K1 q1) : BK (K0 + K1) (mulP q0.1 q0.2 q1.1 q1.2) := by
  obtain ⟨a1, a2, a3⟩ := h0
  obtain ⟨b1, b2, b3⟩ := h1
  unfold mulP
  split
  · unfold BK; simp; omega
  · refine trimS_bk (by omega) (by omega) ?_
    rw [mulTo_length]
    omega
theorem addP_bk {K : Int} {q0 q1 : Int × List Int} (h0 : BK K q0) (h1 : BK K q1) : BK K (addP q0.1 q0.2 q1.1 q1.2) := by
  obtain ⟨a1, a2, a3⟩ := h0
  obtain ⟨b1, b2, b3⟩ := h1
  unfold addP
  split
  · exact trimS_bk (by omega) b1 b3
  · split
    · exact trimS_bk (by omega) a1 a3
    · refine trimS_bk (by omega) (by unfold lowOf; split <;> omega) ?_
      unfold addRaw
      rw [addAt_length, addAt_length, List.length_replicate]
      unfold lowOf highOf
      split <;> split <;> omega
theorem loop_bk : ∀ m : Nat, BK (1 + 3 * (m : Int)) (loopP m)
  | 0 => by unfold BK loopP; simp
  | m + 1 => by
    have h := mulP_bk (loop_bk m) (show BK 3 (-2, [-1, 0, 0, 0, -1]) by unfold BK; simp)
    rw [show 1 + 3 * (((m + 1 : Nat)) : Int) = 1 + 3 * (m : Int) + 3 from by omega]
    exact h
theorem summ_bk {p : Int} {P : Int} (hp : -P ≤ p ∧ p ≤ P) : ∀ m : Nat, BK (P + 1 + 3 * (m : Int)) (summP p m)
  | 0 => by unfold BK summP; simp; omega
  | m + 1 => by
    have h := mulP_bk (summ_bk hp m) (show BK 3 (-2, [-1, 0, 0, 0, -1]) by unfold BK; simp)
    rw [show P + 1 + 3 * (((m + 1 : Nat)) : Int) = P + 1 + 3 * (m : Int) + 3 from by omega]
    exact h

/-- the first i of the places p 0, p 1, .. written -/
def updTo (p : Nat → Nat) (g : Nat → Int) : Nat → List Int → List Int
  | 0, ys => ys
  | i + 1, ys => (updTo p g i ys).set (p i) (g i)
theorem updTo_len (p : Nat → Nat) (g : Nat → Int) (ys : List Int) : ∀ i, (updTo p g i ys).length = ys.length
  | 0 => rfl
  | i + 1 => by unfold updTo; rw [List.length_set, updTo_len p g ys i]
theorem updTo_off {p : Nat → Nat} {g : Nat → Int} {ys : List Int} {j : Nat} : ∀ {i : Nat}, (∀ k, k < i → p k ≠ j) → (updTo p g i ys)[j]? = ys[j]?
  | 0, _ => rfl
  | i + 1, h => by
    unfold updTo
    rw [List.getElem?_set_ne (h i (Nat.lt_succ_self i))]
    exact updTo_off fun k hk => h k (Nat.lt_succ_of_lt hk)
theorem updTo_agree {p : Nat → Nat} {g : Nat → Int} {ys zs : List Int} (hl : ys.length = zs.length) : ∀ {i : Nat} {Q : Nat → Prop}, (∀ j, Q j → (∀ k, k < i → p k ≠ j) → ys[j]? = zs[j]?) → ∀ j, Q j → (updTo p g i ys)[j]? = (updTo p g i zs)[j]?
  | 0, Q, h, j, hq => h j hq (fun k hk => absurd hk (Nat.not_lt_zero k))
  | i + 1, Q, h, j, hq => by
    unfold updTo
    by_cases e : p i = j
    · subst e
      rw [List.getElem?_set, List.getElem?_set, updTo_len, updTo_len, hl, if_pos rfl, if_pos rfl]
    · rw [List.getElem?_set_ne e, List.getElem?_set_ne e]
      refine updTo_agree hl (Q := fun x => Q x ∧ p i ≠ x) (fun x hx hk => h x hx.1 fun k hki => ?_) j ⟨hq, e⟩
      rcases Nat.lt_or_ge k i with h1 | h1
      · exact hk k h1
      · rw [show k = i from by omega]; exact hx.2
theorem updTo_eq {p : Nat → Nat} {g : Nat → Int} {ys zs : List Int} {n : Nat} (hl : ys.length = zs.length) (h : ∀ j, (∀ k, k < n → p k ≠ j) → ys[j]? = zs[j]?) : updTo p g n ys = updTo p g n zs :=
  List.ext_getElem? fun j => updTo_agree hl (Q := fun _ => True) (fun j _ hk => h j hk) j trivial
/-- the power of a way: the number of bits set less the number of the others -/
def powTo (s : Nat) : Nat → Int
  | 0 => 0
  | i + 1 => powTo s i + (if s / 2 ^ i % 2 = 1 then 1 else -1)
theorem powTo_b (s : Nat) : ∀ i : Nat, -(i : Int) ≤ powTo s i ∧ powTo s i ≤ i
  | 0 => by simp [powTo]
  | i + 1 => by
    have h := powTo_b s i
    unfold powTo
    split <;> omega
end Go.Proofs.YtjlifbdaieblpaaGreat
