/-
  Contracts: the laws' marks in rows of moves (markMoveS, heldMoveS). Conditions: none beyond the lengths.
-/
import Derived.Test.YtocellbhpjiioaaMoves
namespace Go.Proofs.Ytocellbhpjiioaa
open Go.RowKit
set_option linter.unusedVariables false

/-- k, k + 1, .. by threes -/
def mark3 (k : Int) (i : Nat) : Int × Int × Int := (k + 3 * (i : Int), k + 3 * (i : Int) + 1, k + 3 * (i : Int) + 1 + 1)
def marksM (k : Int) (n : Nat) : List (Int × Int × Int) := (List.range n).map (mark3 k)
theorem marksM_length (k : Int) (n : Nat) : (marksM k n).length = n := by simp [marksM]
theorem marksM_at (k : Int) {n j : Nat} (h : j < n) : (marksM k n)[j]? = some (mark3 k j) := by simp [marksM, h]
theorem marksM_set (k : Int) {xs : List (Int × Int × Int)} {j : Nat} (hj : j < xs.length) (h : xs.take j = marksM k j) : (xs.set j (mark3 k j)).take (j + 1) = marksM k (j + 1) := by
  have hm : marksM k (j + 1) = marksM k j ++ [mark3 k j] := by simp [marksM, List.range_succ]
  rw [List.take_add_one, List.getElem?_set_self hj, List.take_set_of_le (Nat.le_refl _), h, hm]
  rfl

set_option maxHeartbeats 1000000 in
theorem markMoveS_any (A : Option Addr) (c base : Nat) (xs : List (Int × Int × Int)) (k0 : Int) (w : World) (h : Own mvE w base A c xs) (hn : xs.length ≤ 1048576) (h0 : 0 ≤ k0) (h1 : k0 ≤ 4294967296) :
    Calls Try.prog 26 #[.slice A xs.length c, .int .i64 k0] w fun e w' => e = .returned (.int .i64 (k0 + 3 * (xs.length : Int))) ∧ Own mvE w' base A c (marksM k0 xs.length) ∧ w.grownBy w' (blk A) := by
  go_enter Try.func26, Try.ntmps26
  go_wp2
  go_loopw [1, 5] (fun kk i wr => ∃ (j : Nat) (ys : List (Int × Int × Int)), j ≤ xs.length ∧ i = .int .i64 j ∧ kk = .int .i64 (k0 + 3 * (j : Int)) ∧ Hid (ys.length = xs.length) ∧ Hid (ys.take j = marksM k0 j) ∧
      Own mvE wr base A c ys ∧ w.grownBy wr (blk A))
    (fun _ i _ => xs.length - (intOf i).toNat)
  case atStart => exact ⟨0, xs, Nat.zero_le _, rfl, by simp, hide rfl, hide (by simp [marksM]), h, World.grownBy.refl _ _⟩
  case round =>
    obtain ⟨j, ys, hj, rfl, rfl, hyl, hyt, hown, hg⟩ := hrel
    by_cases hlt : j < xs.length
    · have hyl' := hyl.out
      obtain ⟨g, x, y, z, hA, hgb, hgs, hy, hgc, hgd, hge, hgf, hst⟩ := mvOwn_at hown (k := j) (by omega)
      subst hA
      obtain ⟨o2, g2⟩ := hst (k0 + 3 * (j : Int)) (k0 + 3 * (j : Int) + 1) (k0 + 3 * (j : Int) + 1 + 1)
      have f0 := hgf (j * 3)
      have f1 := hgf (j * 3 + 1)
      have f2 := hgf (j * 3 + 2)
      have HO := hide o2
      have HG := hide (grown_trans hg g2)
      have HT := hide (marksM_set k0 (by omega) hyt.out)
      have HY : Hid ((ys.set j (mark3 k0 j)).length = xs.length) := by rw [Hid, List.length_set]; exact hyl'
      clear hst o2 g2 hgf hyt hyl hyl' hy
      go_wp2_with fail
      go_roundw
      case rel => exact ⟨j + 1, _, by omega, by go_num, by go_num, HY, HT, HO.out, HG.out⟩
      case measure => simp [intOf]; omega
    · go_wp2_with fail
      go_ret
      have hjj : j = xs.length := by omega
      have hyt' := hyt.out
      have hyl' := hyl.out
      rw [hjj, List.take_of_length_le (by omega)] at hyt'
      subst hyt'
      exact ⟨ret_int (by omega), hown, hg⟩

set_option maxHeartbeats 1000000 in
theorem heldMoveS_any (A : Option Addr) (c n : Nat) (k0 : Int) (w : World) (h : RG mvE w A (marksM k0 n)) (hn : n ≤ 1048576) (h0 : 0 ≤ k0) (h1 : k0 ≤ 4294967296) :
    Calls Try.prog 27 #[.slice A n c, .int .i64 k0] w (RetV w (.int .i64 (k0 + 3 * (n : Int)))) := by
  go_enter Try.func27, Try.ntmps27
  go_wp2
  go_loop [1, 5] (fun kk i => ∃ (j : Nat), j ≤ n ∧ i = .int .i64 j ∧ kk = .int .i64 (k0 + 3 * (j : Int)))
    (fun _ i => n - (intOf i).toNat)
  case atStart => exact ⟨0, Nat.zero_le _, rfl, by simp⟩
  case round =>
    obtain ⟨j, hj, rfl, rfl⟩ := hrel
    by_cases hlt : j < n
    · obtain ⟨b, off, x, y, z, hA, hb, hx, hc, hd, he⟩ := mv_at h (k := j) (by rw [marksM_length]; omega)
      subst hA
      rw [marksM_at k0 hlt] at hx
      unfold mark3 at hx
      injection hx with hx
      injection hx with e1 e2
      injection e2 with e2 e3
      subst e1 e2 e3
      have hne : (k0 + 3 * (j : Int) != k0 + 3 * (j : Int)) = false := by simp
      have hne2 : (k0 + 3 * (j : Int) + 1 != k0 + 3 * (j : Int) + 1) = false := by simp
      have hne3 : (k0 + 3 * (j : Int) + 1 + 1 != k0 + 3 * (j : Int) + 1 + 1) = false := by simp
      go_wp2_with fail
      go_round
      case rel => exact ⟨j + 1, by omega, by go_num, by go_num⟩
      case measure => simp [intOf]; omega
    · go_wp2_with fail
      go_ret
      exact ⟨ret_int (by omega), Below.refl _ _⟩
end Go.Proofs.Ytocellbhpjiioaa
