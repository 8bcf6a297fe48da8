/-
  Contracts: hasIndex; the program's codedCode with one index. Conditions: none beyond the lengths.
-/
import Derived.Test.YtpgpchklmdhldaaCodeIn
namespace Go.Proofs.Ytpgpchklmdhldaa
open Go.RowKit
set_option linter.unusedVariables false

theorem hasIndex_any (x : Int) (n : Nat) (w : World) (hn : n ≤ 1048576) : Calls Try.prog 107 #[.int .i64 x, .int .i64 (n : Int)] w (fun e w' => e = .returned (.bool (inB x 0 ((n : Int) - 1))) ∧ w = w') := by
  have wl : IntKind.i64.wrap ((n : Int) - 1) = (n : Int) - 1 := by rw [IntKind.wrap_i64]; omega
  go_enter Try.func107, Try.ntmps107
  go_wp2_with (go_at_call 65; refine (inRange_any _ _ _ _).mono ?_; rintro e w' ⟨rfl, rfl⟩)
  go_ret
  exact ⟨rfl, rfl⟩
set_option maxHeartbeats 1000000 in
theorem codedCode_one (A B : Option Addr) (c d T : Nat) (code : List (List Int)) (j : Int) (w : World) (hc : RC w T A code) (hB : RI w B [j]) (hn : code.length + sumLen code ≤ 1048576) :
    Calls Try.prog 69 #[.slice A code.length c, .slice B 1 d] w (RetV w (.int .i64 (curveC code j))) := by
  cases hv : validC code
  · have HV := hide (show curveC code j = 1 by unfold curveC; rw [if_neg (by rw [hv]; simp)])
    go_enter Try.func69, Try.ntmps69
    go_wp2_with fail
    refine (validCode_any _ _ T code _ hc hn).mono ?_
    rw [hv]
    rintro e w1 ⟨rfl, hb⟩
    go_wp2_with fail
    go_ret
    rw [HV.out]
    exact ⟨rfl, hb⟩
  · have HV := hide hv
    have hlen : code.length ≤ 1048576 := by omega
    go_enter Try.func69, Try.ntmps69
    go_wp2_with fail
    refine (validCode_any _ _ T code _ hc hn).mono ?_
    rw [hv]
    rintro e w1 ⟨rfl, hb⟩
    have hB1 := hB.below hb
    clear hv
    go_wp2_with fail
    go_loop [12] (fun i => ∃ k : Nat, k ≤ 1 ∧ i = .int .i64 k ∧ Hid (k = 1 → inB j 0 ((code.length : Int) - 1) = true)) (fun i => 1 - (intOf i).toNat)
    case atStart => exact ⟨0, Nat.zero_le _, rfl, hide (fun e => by cases e)⟩
    case round =>
      obtain ⟨k, hk, rfl, hall⟩ := hrel
      by_cases hlt : k < 1
      · obtain rfl : k = 0 := by omega
        obtain ⟨b, off, x, rfl, hbb, hx, hcc⟩ := hB1.at_ (k := 0) (by simp)
        have hxj : j = x := by simpa using hx
        subst hxj
        have hcc0 : w1.cell? ⟨b, off, none⟩ = some (.int .i64 j) := hcc
        clear hx
        cases hi : inB j 0 ((code.length : Int) - 1)
        · have H2 := hide (show curveC code j = 2 by unfold curveC; rw [if_pos HV.out, if_neg (by rw [hi]; simp)])
          go_wp2_with (go_at_call 107; refine (hasIndex_any _ _ _ hlen).mono ?_; rintro e w' ⟨rfl, rfl⟩)
          go_ret
          rw [H2.out]
          exact ⟨rfl, hb⟩
        · have HI := hide hi
          go_wp2_with (go_at_call 107; refine (hasIndex_any _ _ _ hlen).mono ?_; rintro e w' ⟨rfl, rfl⟩)
          go_round
          case rel => exact ⟨1, by omega, by go_num, by first | exact hide (fun _ => HI.out) | exact hide (fun _ => trivial)⟩
          case measure => simp [intOf]
      · obtain rfl : k = 1 := by omega
        have H0 := hide (show curveC code j = 0 by unfold curveC; rw [if_pos HV.out, if_pos (hall.out rfl)])
        clear hall
        go_wp2_with fail
        go_ret
        rw [H0.out]
        exact ⟨rfl, hb⟩
end Go.Proofs.Ytpgpchklmdhldaa
