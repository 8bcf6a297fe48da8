/-
  Plain law of FnSigns: writhes and linking numbers of a panel. Conditions: a valid panel.
-/
import Derived.Test.YtmjeafklafjakaaPanX
import Derived.Test.YtmjeafklafjakaaTr18
namespace Go.Proofs.Ytmjeafklafjakaa
open Go.RowKit
set_option linter.unusedVariables false

theorem sumW_su {l : List Int} (h : ∀ x ∈ l, x = 1 ∨ x = -1) (hn : l.length ≤ 1000) : ∀ k, k ≤ l.length → sumW (l.take k) = su k (fun i => l.getD i 0) ∧ -(k : Int) ≤ su k (fun i => l.getD i 0) ∧ su k (fun i => l.getD i 0) ≤ (k : Int)
  | 0, _ => ⟨rfl, Int.le_refl _, Int.le_refl _⟩
  | k + 1, hk => by
    obtain ⟨h1, h2, h3⟩ := sumW_su h hn k (by omega)
    have hx : l[k]? = some (l.getD k 0) := by rw [List.getD_eq_getElem?_getD, List.getElem?_eq_getElem (by omega)]; rfl
    have hp := h _ (List.mem_of_getElem? hx)
    have e : su (k + 1) (fun i => l.getD i 0) = su k (fun i => l.getD i 0) + l.getD k 0 := rfl
    rw [sumW_next hx, h1, e]
    refine ⟨?_, by omega, by omega⟩
    unfold wrap64
    omega
section
variable {wd ht : Int} {xs : List Int}
theorem lkN_sym (a b : Nat) : lkN wd ht xs a b = lkN wd ht xs b a := by
  unfold lkN
  generalize crN xs = k
  induction k with
  | zero => rfl
  | succ k ih =>
    rw [lkG, lkG, ih]
    by_cases h : Both ((dirC wd ht xs true).getD k 0) ((dirC wd ht xs false).getD k 0) a b
    · rw [if_pos h, if_pos (by unfold Both at h ⊢; omega)]
    · rw [if_neg h, if_neg (by unfold Both at h ⊢; omega)]
theorem lkN_even (hv : vldPan wd ht xs = true) {a b : Nat} (hab : a ≠ b) : lkN wd ht xs a b % 2 = 0 := by
  obtain ⟨hs, hl⟩ := vld_sz hv
  refine lk_even hs hl (fun x hx => ?_) hab
  have := List.all_eq_true.1 (vldPan_true hv).2.2.2 x hx
  exact inB_true.1 this
theorem hlf_two (hv : vldPan wd ht xs = true) {a b : Nat} (hab : a ≠ b) : 2 * hlf wd ht xs a b = lkN wd ht xs a b ∧ hlf wd ht xs a b = Int.tdiv (lkN wd ht xs a b) 2 := by
  have h := lkN_even hv hab
  have e : hlf wd ht xs a b = Int.tdiv (lkN wd ht xs a b) 2 := by
    unfold hlf halfO
    rw [if_neg hab]
    rfl
  refine ⟨?_, e⟩
  rw [e]
  by_cases h0 : 0 ≤ lkN wd ht xs a b
  · rw [Int.tdiv_eq_ediv_of_nonneg h0]; omega
  · have e2 := Int.neg_tdiv (lkN wd ht xs a b) 2
    have e3 : Int.tdiv (-lkN wd ht xs a b) 2 = (-lkN wd ht xs a b) / 2 := Int.tdiv_eq_ediv_of_nonneg (by omega)
    omega
theorem hlf_sym (a b : Nat) : hlf wd ht xs a b = hlf wd ht xs b a := by
  have h := lkN_sym (wd := wd) (ht := ht) (xs := xs) a b
  unfold lkN at h
  unfold hlf halfO
  by_cases e : a = b
  · rw [if_pos e, if_pos e.symm]
  · rw [if_neg e, if_neg (Ne.symm e), h]
theorem hlf_diag (a : Nat) : hlf wd ht xs a a = 0 := by
  unfold hlf halfO
  rw [if_pos rfl]
theorem com_le (hv : vldPan wd ht xs = true) {a b : Nat} (hab : a ≠ b) : 2 * hlf wd ht xs a b ≤ comTo wd ht xs a b xs.length ∧ -2 * hlf wd ht xs a b ≤ comTo wd ht xs a b xs.length := by
  obtain ⟨hs, hl⟩ := vld_sz hv
  have h1 := (hlf_two hv hab).1
  have h2 := lk_le (a := a) (b := b) hs hl
  unfold lkN crN at h1
  omega
/-- the writhes and linking numbers up to a place in the table -/
noncomputable def sgnTo (wd ht : Int) (xs : List Int) (a : Nat) : Int := diagS (lkN wd ht xs) a + leftS (lkN wd ht xs) a
noncomputable def sgnRow (wd ht : Int) (xs : List Int) (a b : Nat) : Int := sgnTo wd ht xs a + lkN wd ht xs a a + su b (fun b => lkN wd ht xs a b)
theorem sgnRow_next (hv : vldPan wd ht xs = true) {a b : Nat} (hab : b < a) : sgnRow wd ht xs a (b + 1) = sgnRow wd ht xs a b + 2 * hlf wd ht xs a b := by
  rw [(hlf_two hv (by omega)).1]
  unfold sgnRow
  show _ + _ + (su b (fun b => lkN wd ht xs a b) + lkN wd ht xs a b) = _
  omega
theorem sgnRow_all (a : Nat) : sgnRow wd ht xs a a = sgnTo wd ht xs (a + 1) := by
  unfold sgnRow sgnTo
  rw [diagS_next, leftS_next]
  omega
theorem sgn_end (hv : vldPan wd ht xs = true) : sgnTo wd ht xs (cvN wd ht xs) = sumW (sgL wd ht xs) := by
  obtain ⟨hs, hl⟩ := vld_sz hv
  have hlen := sgL_len (xs := xs) hs hl
  have hin : xs.length ≤ 112 := by
    obtain ⟨s1, s2, s3, s4⟩ := hs
    unfold innerN at hl
    rcases eight s1 s2 with rfl | rfl | rfl | rfl | rfl | rfl | rfl | rfl <;> omega
  have hz := zTo_len xs xs.length
  have h := (sumW_su (l := sgL wd ht xs) (fun x hx => sgL_pm hx) (by omega) _ (Nat.le_refl _)).1
  rw [List.take_length] at h
  rw [h, hlen]
  refine table_sum (n := cvN wd ht xs) _ fun l hl2 => ?_
  obtain ⟨o, u, i, j, _, _, _, _, h1, h2, h3, h4, _⟩ := dir_four hs hl hl2
  exact ⟨i, j, getD_some h1, getD_some h2, h3, h4⟩
theorem lkN_b (hn : xs.length ≤ 200) (a b : Nat) : -200 ≤ lkN wd ht xs a b ∧ lkN wd ht xs a b ≤ 200 := by
  have h := lkG_bound (oc := dirC wd ht xs true) (uc := dirC wd ht xs false) (fun s (h : s ∈ sgL wd ht xs) => sgL_pm h) (crN xs) a b
  have h2 := crN_le xs
  unfold lkN
  omega
theorem su_b {f : Nat → Int} {B : Int} (h : ∀ i, -B ≤ f i ∧ f i ≤ B) : ∀ n : Nat, -(B * n) ≤ su n f ∧ su n f ≤ B * n
  | 0 => by show -(B * ((0 : Nat) : Int)) ≤ 0 ∧ 0 ≤ B * ((0 : Nat) : Int); simp
  | n + 1 => by
    have ih := su_b h n
    have := h n
    show -(B * ((n + 1 : Nat) : Int)) ≤ su n f + f n ∧ su n f + f n ≤ B * ((n + 1 : Nat) : Int)
    rw [show ((n + 1 : Nat) : Int) = (n : Int) + 1 by omega, Int.mul_add, Int.mul_one]
    omega
theorem sgnTo_b (hn : xs.length ≤ 200) (a : Nat) (ha : a ≤ 256) : -20000000 ≤ sgnTo wd ht xs a ∧ sgnTo wd ht xs a ≤ 20000000 := by
  have h1 := su_b (f := fun a => lkN wd ht xs a a) (B := 200) (fun i => lkN_b hn i i) a
  have h2 : ∀ k : Nat, k ≤ 256 → -(51200 * (k : Int)) ≤ leftS (lkN wd ht xs) k ∧ leftS (lkN wd ht xs) k ≤ 51200 * (k : Int) := fun k => by
    induction k with
    | zero =>
      intro _
      have e : leftS (lkN wd ht xs) 0 = 0 := rfl
      omega
    | succ k ih =>
      intro hk
      have i1 := ih (by omega)
      have i2 := su_b (f := fun b => lkN wd ht xs k b) (B := 200) (fun i => lkN_b hn k i) k
      rw [leftS_next]
      omega
  have h3 := h2 a ha
  unfold sgnTo diagS
  omega
theorem sgnRow_b (hn : xs.length ≤ 200) (a b : Nat) (ha : a ≤ 256) (hb : b ≤ 256) : -30000000 ≤ sgnRow wd ht xs a b ∧ sgnRow wd ht xs a b ≤ 30000000 := by
  have h1 := sgnTo_b (wd := wd) (ht := ht) hn a ha
  have h2 := lkN_b (wd := wd) (ht := ht) hn a a
  have h3 := su_b (f := fun b => lkN wd ht xs a b) (B := 200) (fun i => lkN_b hn a i) b
  unfold sgnRow
  omega
theorem hlf_b (hn : xs.length ≤ 200) (a b : Nat) : -200 ≤ hlf wd ht xs a b ∧ hlf wd ht xs a b ≤ 200 := by
  have h := lkN_b (wd := wd) (ht := ht) hn a b
  have e : hlf wd ht xs a b = 0 ∨ hlf wd ht xs a b = Int.tdiv (lkN wd ht xs a b) 2 := by
    unfold hlf halfO
    by_cases e : a = b
    · rw [if_pos e]; exact .inl rfl
    · rw [if_neg e]; exact .inr rfl
  have h2 := tdiv2_bound (x := lkN wd ht xs a b) (M := 200) (by omega) (by omega)
  omega
end
set_option maxHeartbeats 400000 in
theorem a2Sum_any (A : Option Addr) (c : Nat) (xs : List Int) (w : World) (h : RI w A xs) (hn : xs.length ≤ 1048576) :
    Calls Try.prog 13 #[.slice A xs.length c] w fun e w' => e = .returned (.int .i64 (sumW xs)) ∧ w = w' := by
  go_enter Try.func13, Try.ntmps13
  go_wp2
  go_loop [3, 4] (fun s i => ∃ k : Nat, k ≤ xs.length ∧ i = .int .i64 k ∧ s = .int .i64 (sumW (xs.take k))) (fun _ i => xs.length - (intOf i).toNat)
  case atStart => exact ⟨0, Nat.zero_le _, rfl, rfl⟩
  case round =>
    obtain ⟨k, hk, rfl, rfl⟩ := hrel
    by_cases hlt : k < xs.length
    · obtain ⟨b, off, x, rfl, hb, hx, hc⟩ := h.at_ hlt
      have HS := hide (sumW_next hx)
      go_wp2
      go_round
      case rel => exact ⟨k + 1, by omega, by go_num, by rw [HS.out]⟩
      case measure => simp [intOf]; omega
    · go_wp2
      go_ret
      have hkk : k = xs.length := by omega
      rw [hkk, List.take_of_length_le (Nat.le_refl _)]
      exact ⟨rfl, rfl⟩
end Go.Proofs.Ytmjeafklafjakaa
