/-
  Contracts: cmp.Compare, slices.Compare, l06Numbers at integers. Conditions: none beyond the lengths.
-/
import Derived.Test.YtnjojnnapdhijaaContains
import Derived.Test.YtnjojnnapdhijaaLex
import Derived.Test.YtnjojnnapdhijaaCode1
import Derived.BigQuiet
namespace Go.Proofs.Ytnjojnnapdhijaa
open Go.RowKit
set_option linter.unusedVariables false

theorem isNaN_any (x : Int) (w : World) : Calls Try.prog 133 #[.int .i64 x] w fun e w' => e = .returned (.bool false) ∧ w = w' := by
  have h1 : (x != x) = false := by simp
  go_enter Try.func133, Try.ntmps133
  go_wp2
  go_ret
  exact ⟨rfl, rfl⟩
def cmpI (x y : Int) : Int := if x < y then -1 else if y < x then 1 else 0
theorem cmpCompare_any (x y : Int) (w : World) : Calls Try.prog 122 #[.int .i64 x, .int .i64 y] w fun e w' => e = .returned (.int .i64 (cmpI x y)) ∧ w = w' := by
  by_cases h1 : x < y
  · have HV : Hid (cmpI x y = -1) := hide (by unfold cmpI; rw [if_pos h1])
    go_enter Try.func122, Try.ntmps122
    go_wp2_with (go_at_call 133; refine (isNaN_any _ _).mono ?_; rintro e w' ⟨rfl, rfl⟩)
    go_ret
    rw [HV.out]
    exact ⟨rfl, rfl⟩
  · by_cases h2 : y < x
    · have HV : Hid (cmpI x y = 1) := hide (by unfold cmpI; rw [if_neg h1, if_pos h2])
      go_enter Try.func122, Try.ntmps122
      go_wp2_with (go_at_call 133; refine (isNaN_any _ _).mono ?_; rintro e w' ⟨rfl, rfl⟩)
      go_ret
      rw [HV.out]
      exact ⟨rfl, rfl⟩
    · have HV : Hid (cmpI x y = 0) := hide (by unfold cmpI; rw [if_neg h1, if_neg h2])
      go_enter Try.func122, Try.ntmps122
      go_wp2_with (go_at_call 133; refine (isNaN_any _ _).mono ?_; rintro e w' ⟨rfl, rfl⟩)
      go_ret
      rw [HV.out]
      exact ⟨rfl, rfl⟩
set_option maxHeartbeats 2000000 in
theorem slCompare_any (A B : Option Addr) (c d : Nat) (xs ys : List Int) (w : World) (hA : RI w A xs) (hB : RI w B ys) (hn : xs.length ≤ 1048576) (hm : ys.length ≤ 1048576) :
    Calls Try.prog 77 #[.slice A xs.length c, .slice B ys.length d] w fun e w' => e = .returned (.int .i64 (cmpL xs ys)) ∧ w = w' := by
  go_enter Try.func77, Try.ntmps77
  go_wp2_with fail
  go_loop [11] (fun s => ∃ k : Nat, k ≤ xs.length ∧ k ≤ ys.length ∧ s = .int .i64 k ∧ Hid (xs.take k = ys.take k)) (fun s => xs.length - (intOf s).toNat)
  case atStart => exact ⟨0, Nat.zero_le _, Nat.zero_le _, rfl, hide (by simp)⟩
  case round =>
    obtain ⟨k, hk, hky, rfl, ht⟩ := hrel
    by_cases hlt : k < xs.length
    · obtain ⟨b, off, x, rfl, hb, hx, hcx⟩ := hA.at_ hlt
      by_cases hly : k < ys.length
      · obtain ⟨b2, off2, y, rfl, hb2, hy, hcy⟩ := hB.at_ hly
        by_cases h1 : x < y
        · have HV : Hid (cmpL xs ys = -1) := hide (cmpL_below ht.out hx hy h1)
          have hci : cmpI x y = -1 := by unfold cmpI; rw [if_pos h1]
          clear hx hy h1
          go_wp2_with (go_at_call 122; refine (cmpCompare_any _ _ _).mono ?_; rw [hci]; rintro e w' ⟨rfl, rfl⟩)
          go_ret
          rw [HV.out]
          exact ⟨rfl, rfl⟩
        · by_cases h2 : y < x
          · have HV : Hid (cmpL xs ys = 1) := hide (cmpL_above ht.out hx hy h2)
            have hci : cmpI x y = 1 := by unfold cmpI; rw [if_neg h1, if_pos h2]
            clear hx hy h1 h2
            go_wp2_with (go_at_call 122; refine (cmpCompare_any _ _ _).mono ?_; rw [hci]; rintro e w' ⟨rfl, rfl⟩)
            go_ret
            rw [HV.out]
            exact ⟨rfl, rfl⟩
          · have hxy : x = y := by omega
            have HT : Hid (xs.take (k + 1) = ys.take (k + 1)) := hide (take_eq_nextI hx (by rw [hxy]; exact hy) ht.out)
            have hci : cmpI x y = 0 := by unfold cmpI; rw [if_neg h1, if_neg h2]
            clear hx hy h1 h2 hxy
            go_wp2_with (go_at_call 122; refine (cmpCompare_any _ _ _).mono ?_; rw [hci]; rintro e w' ⟨rfl, rfl⟩)
            go_round
            case rel => exact ⟨k + 1, by omega, by omega, by go_num, HT⟩
            case measure => simp [intOf]; omega
      · have HV : Hid (cmpL xs ys = 1) := hide (cmpL_end' ht.out (by omega) hlt)
        go_wp2_with fail
        go_ret
        rw [HV.out]
        exact ⟨rfl, rfl⟩
    · have HV := hide (cmpL_end ht.out (show xs.length = k by omega) hky)
      by_cases hly : k < ys.length
      · have hyy : (xs.length : Int) < (ys.length : Int) := by omega
        go_wp2_with fail
        go_ret
        rw [HV.out, if_pos hly]
        exact ⟨rfl, rfl⟩
      · have hyy : ¬ (xs.length : Int) < (ys.length : Int) := by omega
        go_wp2_with fail
        go_ret
        rw [HV.out, if_neg hly]
        exact ⟨rfl, rfl⟩
set_option maxHeartbeats 2000000 in
theorem l06Numbers_any (A B : Option Addr) (c d : Nat) (xs ys : List Int) (w : World) (hA0 : RI w A xs) (hB0 : RI w B ys) (hn : xs.length ≤ 1048576) (hm : ys.length ≤ 1048576) :
    Calls Try.prog 79 #[.slice A xs.length c, .slice B ys.length d] w (RetV w (.int .i64 (cmpL xs ys))) := by
  go_enter Try.func79, Try.ntmps79
  go_wp2_with fail
  go_loopw [5] (fun s wr => ∃ k : Nat, k ≤ xs.length ∧ k ≤ ys.length ∧ s = .int .i64 k ∧ Hid (xs.take k = ys.take k) ∧ Below w.heap.size w wr) (fun s _ => xs.length - (intOf s).toNat)
  case atStart => exact ⟨0, Nat.zero_le _, Nat.zero_le _, rfl, hide (by simp), Below.refl _ _⟩
  case round =>
    obtain ⟨k, hk, hky, rfl, ht, hbw⟩ := hrel
    have hA := hA0.below hbw
    have hB := hB0.below hbw
    by_cases hlt : k < xs.length
    · obtain ⟨b, off, x, rfl, hb, hx, hcx⟩ := hA.at_ hlt
      by_cases hly : k < ys.length
      · obtain ⟨b2, off2, y, rfl, hb2, hy, hcy⟩ := hB.at_ hly
        have g1 : (k : Int) < (xs.length : Int) := by omega
        have g2 : (k : Int) < (ys.length : Int) := by omega
        by_cases h1 : x < y
        · have HV : Hid (cmpL xs ys = -1) := hide (cmpL_below ht.out hx hy h1)
          clear hx hy
          go_wp2_with fail
          go_quiet (fail)
          go_wp2_with fail
          go_ret
          rw [HV.out]
          exact ⟨rfl, below_drewN'' hbw _⟩
        · by_cases h2 : y < x
          · have HV : Hid (cmpL xs ys = 1) := hide (cmpL_above ht.out hx hy h2)
            clear hx hy
            go_wp2_with fail
            go_quiet (fail)
            go_wp2_with fail
            go_quiet (fail)
            go_wp2_with fail
            go_ret
            rw [HV.out]
            exact ⟨rfl, below_drewN'' (below_drewN'' hbw _) _⟩
          · have hxy : x = y := by omega
            have HT : Hid (xs.take (k + 1) = ys.take (k + 1)) := hide (take_eq_nextI hx (by rw [hxy]; exact hy) ht.out)
            clear hx hy hxy
            go_wp2_with fail
            go_quiet (fail)
            go_wp2_with fail
            go_quiet (fail)
            go_wp2_with fail
            go_roundw
            case rel => exact ⟨k + 1, by omega, by omega, by go_num, HT, below_drewN'' hbw _⟩
            case measure => simp [intOf]; omega
      · have HV : Hid (cmpL xs ys = 1) := hide (cmpL_end' ht.out (by omega) hlt)
        have hyy : ¬ (xs.length : Int) < (ys.length : Int) := by omega
        have hyz : (ys.length : Int) < (xs.length : Int) := by omega
        go_wp2_with fail
        go_ret
        rw [HV.out]
        exact ⟨rfl, hbw⟩
    · have HV := hide (cmpL_end ht.out (show xs.length = k by omega) hky)
      by_cases hly : k < ys.length
      · have hyy : (xs.length : Int) < (ys.length : Int) := by omega
        go_wp2_with fail
        go_ret
        rw [HV.out, if_pos hly]
        exact ⟨rfl, hbw⟩
      · have hyy : ¬ (xs.length : Int) < (ys.length : Int) := by omega
        have hyz : ¬ (ys.length : Int) < (xs.length : Int) := by omega
        go_wp2_with fail
        go_ret
        rw [HV.out, if_neg hly]
        exact ⟨rfl, hbw⟩
end Go.Proofs.Ytnjojnnapdhijaa
