/-
  Plain lemmas: the sorted row of the crossings that a curve meets twice. Conditions: none; nothing of the program is named here.
-/
import Derived.Test.YtpgpchklmdhldaaMoveMath
import Derived.Test.YtpgpchklmdhldaaOwnSpec
namespace Go.Proofs.Ytpgpchklmdhldaa
open Go.RowKit
set_option linter.unusedVariables false

theorem asc_ext : ∀ (l m : List Int), l.Pairwise (· < ·) → m.Pairwise (· < ·) → (∀ x, x ∈ l ↔ x ∈ m) → l = m
  | [], [], _, _, _ => rfl
  | [], b :: m, _, _, h => absurd ((h b).2 List.mem_cons_self) (by simp)
  | a :: l, [], _, _, h => absurd ((h a).1 List.mem_cons_self) (by simp)
  | a :: l, b :: m, h1, h2, h => by
    rw [List.pairwise_cons] at h1 h2
    have e : a = b := by
      rcases List.mem_cons.1 ((h a).1 List.mem_cons_self) with e | e
      · exact e
      · rcases List.mem_cons.1 ((h b).2 List.mem_cons_self) with e2 | e2
        · exact e2.symm
        · have h3 := h1.1 b e2
          have h4 := h2.1 a e
          omega
    subst e
    congr 1
    refine asc_ext l m h1.2 h2.2 fun x => ⟨fun hx => ?_, fun hx => ?_⟩
    · rcases List.mem_cons.1 ((h x).1 (List.mem_cons_of_mem _ hx)) with e | e
      · have h3 := h1.1 x hx
        omega
      · exact e
    · rcases List.mem_cons.1 ((h x).2 (List.mem_cons_of_mem _ hx)) with e | e
      · have h3 := h2.1 x hx
        omega
      · exact e
/-- the crossings that a curve meets twice, in the order of the curve -/
def ownI (xs : List Int) : List Int := (xs.filter fun x => decide (0 < x) && hasB xs (-x)).map fun x => x - 1
theorem ownL_mem {xs : List Int} {m : Nat} {y : Int} : y ∈ ownL xs m ↔ 0 ≤ y ∧ y < (m : Int) ∧ (y + 1) ∈ xs ∧ -(y + 1) ∈ xs := by
  unfold ownL
  rw [List.mem_map]
  constructor
  · rintro ⟨k, hk, rfl⟩
    obtain ⟨h1, h2⟩ := List.mem_filter.1 hk
    have h1 := List.mem_range.1 h1
    simp [ownB, hasB] at h2
    refine ⟨by simp, by simpa using h1, ?_, ?_⟩
    · exact h2.1
    · have := h2.2
      rwa [show -(Int.ofNat k + 1) = -((k : Int) + 1) by rfl]
  · rintro ⟨h1, h2, h3, h4⟩
    refine ⟨y.toNat, List.mem_filter.2 ⟨List.mem_range.2 (by omega), ?_⟩, by simp; omega⟩
    have e : ((y.toNat : Nat) : Int) = y := by omega
    simp [ownB, hasB, e]
    exact ⟨h3, h4⟩
theorem ownL_asc (xs : List Int) (m : Nat) : (ownL xs m).Pairwise (· < ·) := by
  unfold ownL
  rw [List.pairwise_map]
  refine List.Pairwise.imp ?_ (List.Pairwise.filter _ List.pairwise_lt_range)
  intro a b h
  simpa using h
theorem ownI_sorted {code : List (List Int)} (hv : validC code = true) {i : Nat} {xs : List Int} (hi : code[i]? = some xs) : (ownI xs).mergeSort (fun x y => decide (x ≤ y)) = ownL xs (sumLen code / 2) := by
  obtain ⟨N, g1, g2, g3, g4⟩ := validC_true hv
  have eN : sumLen code / 2 = N := by omega
  have hsub : ∀ x ∈ xs, x ∈ code.flatten := fun x hx => List.mem_flatten.2 ⟨xs, List.mem_of_getElem? hi, hx⟩
  have hxn : xs.Nodup := by
    have h1 := g4.1
    unfold List.Nodup at h1 ⊢
    exact (List.pairwise_flatten.1 h1).1 xs (List.mem_of_getElem? hi)
  have hmem : ∀ y, y ∈ ownI xs ↔ y ∈ ownL xs N := fun y => by
    rw [ownL_mem]
    unfold ownI
    rw [List.mem_map]
    constructor
    · rintro ⟨x, hx, rfl⟩
      obtain ⟨h1, h2⟩ := List.mem_filter.1 hx
      simp [hasB] at h2
      have h3 := g4.2 x (hsub x h1)
      refine ⟨by omega, by omega, by rw [show x - 1 + 1 = x by omega]; exact h1, by rw [show x - 1 + 1 = x by omega]; exact h2.2⟩
    · rintro ⟨h1, h2, h3, h4⟩
      refine ⟨y + 1, List.mem_filter.2 ⟨h3, ?_⟩, by omega⟩
      simp [hasB]
      exact ⟨by omega, h4⟩
  have hnd : (ownI xs).Nodup := by
    unfold ownI List.Nodup
    rw [List.pairwise_map]
    refine List.Pairwise.imp ?_ (List.Pairwise.filter _ hxn)
    intro a b h
    omega
  rw [eN]
  have hperm := List.mergeSort_perm (ownI xs) (fun x y => decide (x ≤ y))
  refine asc_ext _ _ ?_ (ownL_asc _ _) fun y => by rw [hperm.mem_iff]; exact hmem y
  have h1 := List.pairwise_mergeSort (le := fun x y : Int => decide (x ≤ y)) (fun a b c => by simp; omega) (fun a b => by simp; omega) (ownI xs)
  have h2 : ((ownI xs).mergeSort (fun x y => decide (x ≤ y))).Nodup := hperm.nodup_iff.2 hnd
  unfold List.Nodup at h2
  have h3 := List.Pairwise.and h1 h2
  refine List.Pairwise.imp ?_ h3
  intro a b h
  simp at h
  omega
theorem ownI_len (xs : List Int) : (ownI xs).length ≤ xs.length := by
  unfold ownI
  rw [List.length_map]
  exact List.length_filter_le _ _
theorem ownI_snoc (ys xs : List Int) (x : Int) : ((ys ++ [x]).filter fun x => decide (0 < x) && hasB xs (-x)).map (fun x => x - 1) = (ys.filter fun x => decide (0 < x) && hasB xs (-x)).map (fun x => x - 1) ++ (if (decide (0 < x) && hasB xs (-x)) = true then [x - 1] else []) := by
  rw [List.filter_append, List.map_append]
  congr 1
  by_cases h : (decide (0 < x) && hasB xs (-x)) = true
  · simp [h]
  · simp [h]
end Go.Proofs.Ytpgpchklmdhldaa
