/-
  Contracts of the laws' small helpers: long arguments, equal lists; codes that are the same, and how many crossings. Conditions: none beyond the lengths.
-/
import Derived.Test.YtocellbhpjiioaaCodeInM
import Derived.Test.YtocellbhpjiioaaPolyEqM
namespace Go.Proofs.Ytocellbhpjiioaa
open Go.RowKit
set_option linter.unusedVariables false

theorem f6big_any (A : Option Addr) (n c : Nat) (w : World) : Calls Try.prog 5 #[.slice A n c] w fun e w' => e = .returned (.bool (decide (4096 < n))) ∧ w = w' := by
  by_cases h : 4096 < n
  · have h1 : (4096 : Int) < (n : Int) := by omega
    rw [decide_eq_true h]
    go_enter Try.func5, Try.ntmps5
    go_wp2_with fail
    go_ret
    exact ⟨rfl, rfl⟩
  · have h1 : ¬ (4096 : Int) < (n : Int) := by omega
    rw [decide_eq_false h]
    go_enter Try.func5, Try.ntmps5
    go_wp2_with fail
    go_ret
    exact ⟨rfl, rfl⟩
set_option maxHeartbeats 1000000 in
theorem f6ints_same (A B : Option Addr) (c d : Nat) (xs : List Int) (w : World) (hA : RI w A xs) (hB : RI w B xs) (hn : xs.length ≤ 1048576) :
    Calls Try.prog 17 #[.slice A xs.length c, .slice B xs.length d] w (RetQ w (.bool true)) := by
  have hnm : ((xs.length : Int) != (xs.length : Int)) = false := by simp
  go_enter Try.func17, Try.ntmps17
  go_wp2
  go_loopw [5] (fun i wr => ∃ (k : Nat), k ≤ xs.length ∧ i = .int .i64 k ∧ ∃ n, wr = w.drewN n)
    (fun i _ => xs.length - (intOf i).toNat)
  case atStart => exact ⟨0, Nat.zero_le _, rfl, 0, rfl⟩
  case round =>
    obtain ⟨k, hk, rfl, n, rfl⟩ := hrel
    by_cases hlt : k < xs.length
    · obtain ⟨b, off, x, rfl, hb, hx, hc⟩ := hA.at_ hlt
      obtain ⟨b', off', y, rfl, hb', hy, hc'⟩ := hB.at_ (k := k) hlt
      obtain rfl : y = x := by rw [hx] at hy; injection hy with hy; exact hy.symm
      have hne : (y != y) = false := by simp
      go_wp2_with fail
      go_quiet (fail)
      go_wp2
      go_roundw
      case rel => exact ⟨k + 1, by omega, by go_num, _, rfl⟩
      case measure => simp [intOf]; omega
    · go_wp2
      go_ret
      exact ⟨rfl, _, rfl⟩
set_option maxHeartbeats 1000000 in
theorem f6lists_same (A B : Option Addr) (c d T1 T2 : Nat) (xs : List (List Int)) (w : World) (hA : RC w T1 A xs) (hB : RC w T2 B xs) (hn : xs.length + sumLen xs ≤ 1048576) :
    Calls Try.prog 18 #[.slice A xs.length c, .slice B xs.length d] w (RetQ w (.bool true)) := by
  have hnm : ((xs.length : Int) != (xs.length : Int)) = false := by simp
  go_enter Try.func18, Try.ntmps18
  go_wp2
  go_loopw [5] (fun i wr => ∃ (k : Nat), k ≤ xs.length ∧ i = .int .i64 k ∧ ∃ n, wr = w.drewN n)
    (fun i _ => xs.length - (intOf i).toNat)
  case atStart => exact ⟨0, Nat.zero_le _, rfl, 0, rfl⟩
  case round =>
    obtain ⟨k, hk, rfl, n, hwn⟩ := hrel
    have hA1 : RC wr T1 A xs := by rw [hwn]; exact hA.drewN n
    have hB1 : RC wr T2 B xs := by rw [hwn]; exact hB.drewN n
    have HWN := hide hwn
    clear hwn
    by_cases hlt : k < xs.length
    · obtain ⟨b, off, E, f, x, rfl, hb, hx, hc, _, _, hrx⟩ := hA1.row hlt
      obtain ⟨b', off', E', f', y, rfl, hb', hy, hc', _, _, hry⟩ := hB1.row (k := k) hlt
      obtain rfl : y = x := by rw [hx] at hy; injection hy with hy; exact hy.symm
      have hxl := sumLen_row hx
      clear hx hy
      go_wp2_with fail
      go_quiet ((go_at_call 17; exact Calls.quiet_of (f6ints_same _ _ _ _ y _ (hrx.drewN _) (hry.drewN _) (by omega))))
      go_wp2_with fail
      go_roundw
      case rel => exact ⟨k + 1, by omega, by go_num, _, by rw [HWN.out, World.drewN_drewN]⟩
      case measure => simp [intOf]; omega
    · go_wp2
      go_ret
      exact ⟨rfl, _, HWN.out⟩
set_option maxHeartbeats 1000000 in
theorem sameCode_same (A B : Option Addr) (c d T1 T2 : Nat) (xs : List (List Int)) (w : World) (hA : RC w T1 A xs) (hB : RC w T2 B xs) (hn : xs.length + sumLen xs ≤ 1048576) :
    Calls Try.prog 16 #[.slice A xs.length c, .slice B xs.length d] w (RetQ w (.bool true)) := by
  have hnm : ((xs.length : Int) != (xs.length : Int)) = false := by simp
  go_enter Try.func16, Try.ntmps16
  go_wp2
  go_loopw [5] (fun i wr => ∃ (k : Nat), k ≤ xs.length ∧ i = .int .i64 k ∧ ∃ n, wr = w.drewN n)
    (fun i _ => xs.length - (intOf i).toNat)
  case atStart => exact ⟨0, Nat.zero_le _, rfl, 0, rfl⟩
  case round =>
    obtain ⟨k, hk, rfl, n, hwn⟩ := hrel
    have hA1 : RC wr T1 A xs := by rw [hwn]; exact hA.drewN n
    have hB1 : RC wr T2 B xs := by rw [hwn]; exact hB.drewN n
    have HWN := hide hwn
    clear hwn
    by_cases hlt : k < xs.length
    · obtain ⟨b, off, E, f, x, rfl, hb, hx, hc, _, _, hrx⟩ := hA1.row hlt
      obtain ⟨b', off', E', f', y, rfl, hb', hy, hc', _, _, hry⟩ := hB1.row (k := k) hlt
      obtain rfl : y = x := by rw [hx] at hy; injection hy with hy; exact hy.symm
      have hxl := sumLen_row hx
      have hdd : decide (y = y) = true := by simp
      clear hx hy
      go_wp2_with fail
      go_quiet ((go_at_call 43; exact Calls.quiet_of (l00Same_any _ _ _ _ y y _ (hrx.drewN _) (hry.drewN _) (by omega) (by omega))))
      go_wp2_with fail
      go_roundw
      case rel => exact ⟨k + 1, by omega, by go_num, _, by rw [HWN.out, World.drewN_drewN]⟩
      case measure => simp [intOf]; omega
    · go_wp2
      go_ret
      exact ⟨rfl, _, HWN.out⟩
/-- how many crossings, and a code -/
def countR (code : List (List Int)) : Int × Int := if validC code = true then (((sumLen code / 2 : Nat) : Int), 0) else (0, 1)
theorem implCountCoded_any (A : Option Addr) (c T : Nat) (code : List (List Int)) (w : World) (hc : RC w T A code) (hn : code.length + sumLen code ≤ 1048576) :
    Calls Try.prog 21 #[.slice A code.length c] w (RetV w (.tuple #[.int .i64 (countR code).1, .int .i64 (countR code).2])) := by
  cases hv : validC code
  · have hr : countR code = (0, 1) := by unfold countR; rw [hv]; rfl
    rw [hr]
    go_enter Try.func21, Try.ntmps21
    go_wp2_with fail
    refine (validCode_any _ _ T code _ hc hn).mono ?_
    rw [hv]
    rintro e w1 ⟨rfl, hb1⟩
    go_wp2_with fail
    go_ret2
    exact ⟨rfl, hb1⟩
  · have hr : countR code = (((sumLen code / 2 : Nat) : Int), 0) := by unfold countR; rw [hv]; rfl
    rw [hr]
    go_enter Try.func21, Try.ntmps21
    go_wp2_with fail
    refine (validCode_any _ _ T code _ hc hn).mono ?_
    rw [hv]
    rintro e w1 ⟨rfl, hb1⟩
    have HC := hide (countCoded_any A c T code _ (hc.below hb1) hn)
    go_wp2_with fail
    refine HC.out.mono ?_
    rintro e w2 ⟨rfl, rfl⟩
    go_wp2_with fail
    go_ret2
    exact ⟨rfl, hb1⟩
end Go.Proofs.Ytocellbhpjiioaa
