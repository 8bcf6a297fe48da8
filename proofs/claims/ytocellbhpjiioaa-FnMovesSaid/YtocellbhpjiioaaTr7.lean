/-
  Contract: the tracing of a panel, of the program. Conditions: a valid panel's sides and breaks.
-/
import Derived.Test.YtocellbhpjiioaaTr6
import Derived.Test.YtocellbhpjiioaaTrMath3M
namespace Go.Proofs.Ytocellbhpjiioaa
open Go.RowKit
set_option linter.unusedVariables false

theorem markL_snoc {ht m : Int} (o : List Int) (c : List Wk) (x : Wk) : markL ht o (c ++ [x]) m = (markL ht o c m).set (segN ht x) m := by
  unfold markL
  rw [List.foldl_append]
  rfl
/-- k entries filled -/
def fillTo (n k : Nat) : List Int := List.replicate k (-1) ++ List.replicate (n - k) 0
theorem fillTo_len {n k : Nat} (h : k ≤ n) : (fillTo n k).length = n := by simp [fillTo]; omega
theorem fillTo_set {n k : Nat} (h : k < n) : (fillTo n k).set k (-1) = fillTo n (k + 1) := by
  unfold fillTo
  apply List.ext_getElem?
  intro j
  by_cases e : k = j
  · subst e
    rw [List.getElem?_set_self (by simp; omega), List.getElem?_append_left (by simp), List.getElem?_replicate, if_pos (by omega)]
  · rw [List.getElem?_set_ne e]
    simp only [List.getElem?_append, List.length_replicate, List.getElem?_replicate]
    by_cases h1 : j < k
    · rw [if_pos h1, if_pos h1, if_pos (show j < k + 1 by omega), if_pos (show j < k + 1 by omega)]
    · rw [if_neg h1, if_neg (show ¬ j < k + 1 by omega)]
      by_cases h2 : j - k < n - k
      · rw [if_pos h2, if_pos (show j - (k + 1) < n - (k + 1) by omega)]
      · rw [if_neg h2, if_neg (show ¬ j - (k + 1) < n - (k + 1) by omega)]
theorem fillTo_all (n : Nat) : fillTo n n = List.replicate n (-1) := by simp [fillTo]
theorem fillTo_zero (n : Nat) : fillTo n 0 = List.replicate n 0 := by simp [fillTo]

section
variable {wd ht : Int} {xs : List Int}
theorem tr_len (hs : Sz wd ht) {k : Nat} (hk : k ≤ nSeg wd ht) : (trTo wd ht xs k).1.length = nSeg wd ht ∧ (trTo wd ht xs k).2.length ≤ k := ⟨(trInv_to hs k hk).len, (trInv_to hs k hk).cnt⟩
theorem tr_skip {k : Nat} {v : Int} (hv : (trTo wd ht xs k).1[k]? = some v) (h : 0 ≤ v) : trTo wd ht xs (k + 1) = trTo wd ht xs k := by
  rw [trTo, trStep, if_pos (by rw [List.getD_eq_getElem?_getD, hv]; exact h)]
theorem tr_new {k : Nat} {v : Int} (hv : (trTo wd ht xs k).1[k]? = some v) (h : ¬ 0 ≤ v) : trTo wd ht xs (k + 1) = (markL ht (trTo wd ht xs k).1 (orbW wd ht xs (walkK ht k)) (trTo wd ht xs k).2.length, (trTo wd ht xs k).2 ++ [orbW wd ht xs (walkK ht k)]) := by
  rw [trTo, trStep, if_neg (by rw [List.getD_eq_getElem?_getD, hv]; exact h)]
/-- on the way round, the segment ahead is not yet of a curve -/
theorem tr_free (hs : Sz wd ht) {k : Nat} (hk : k < nSeg wd ht) {v : Int} (hv : (trTo wd ht xs k).1[k]? = some v) (h : ¬ 0 ≤ v) {i : Nat} (hi : i < perW wd ht xs (walkK ht k)) (m : Int) :
    (markL ht (trTo wd ht xs k).1 ((orbW wd ht xs (walkK ht k)).take i) m)[segN ht (itW wd ht xs i (walkK ht k))]? = some (-1) := by
  have hT := trInv_to (xs := xs) hs k (by omega)
  obtain ⟨h1, h2⟩ := walkK_ok hs hk
  obtain ⟨p1, p2, p3, p4⟩ := per_spec (xs := xs) hs h1
  rw [markL_out]
  · rw [hT.along h1 i, h2, hv]
    have := (hT.rng k v hv).1
    rw [show v = -1 by omega]
  · intro x hx e
    obtain ⟨j, hj⟩ := List.mem_iff_getElem?.1 hx
    rw [List.getElem?_take] at hj
    split at hj
    · rename_i hji
      rw [orbW_at _ (by omega)] at hj
      injection hj with hj
      subst hj
      refine seg_distinct hs h1 (n := perW wd ht xs (walkK ht k)) p4 hji hi ?_
      rw [← (segN_int hs (okW_it h1 j)).1, ← (segN_int hs (okW_it h1 i)).1, e]
    · cases hj
/-- back at the beginning it is -/
theorem tr_done (hs : Sz wd ht) {k : Nat} (hk : k < nSeg wd ht) (m : Int) :
    (markL ht (trTo wd ht xs k).1 ((orbW wd ht xs (walkK ht k)).take (perW wd ht xs (walkK ht k))) m)[segN ht (itW wd ht xs (perW wd ht xs (walkK ht k)) (walkK ht k))]? = some m := by
  have hT := trInv_to (xs := xs) hs k (by omega)
  obtain ⟨h1, h2⟩ := walkK_ok hs hk
  obtain ⟨p1, p2, p3, p4⟩ := per_spec (xs := xs) hs h1
  rw [p2, List.take_of_length_le (by rw [orbW_len]; exact Nat.le_refl _)]
  exact markL_in _ _ (orbW_mem.2 ⟨0, p1, rfl⟩) (by rw [hT.len]; exact (segN_int hs h1).2)
end

end Go.Proofs.Ytocellbhpjiioaa
