/-
  Contracts of the laws' small helpers: long arguments, equal lists; codes that are the same, and how many crossings. Conditions: none beyond the lengths.
  The walk of the law FnExactCodeFaultName: both functions give the same name for every number. Conditions: none.
  The walk of the law FnCodeFaults. Conditions: none.
-/
import Derived.Test.YtnjojnnapdhijaaCodeInM
import Derived.Test.YtnjojnnapdhijaaPolyEqM
import Derived.Test.YtnjojnnapdhijaaMem
import Derived.Test.YtnjojnnapdhijaaFaultMathM
import Derived.Test.YtnjojnnapdhijaaBentP
import Derived.Test.YtnjojnnapdhijaaCodeOfI
import Derived.Test.YtnjojnnapdhijaaFaultI
import Derived.Test.YtnjojnnapdhijaaFaultS
import Derived.Test.YtnjojnnapdhijaaEvenM
import Derived.Test.YtnjojnnapdhijaaPntMathM
import Derived.Test.YtnjojnnapdhijaaOpenB
import Derived.Test.YtnjojnnapdhijaaRows
namespace Go.Proofs.Ytnjojnnapdhijaa
open Go.RowKit
set_option linter.unusedVariables false

theorem f6big_any (A : Option Addr) (n c : Nat) (w : World) : Calls Try.prog 7 #[.slice A n c] w fun e w' => e = .returned (.bool (decide (4096 < n))) ∧ w = w' := by
  by_cases h : 4096 < n
  · have h1 : (4096 : Int) < (n : Int) := by omega
    rw [decide_eq_true h]
    go_enter Try.func7, Try.ntmps7
    go_wp2_with fail
    go_ret
    exact ⟨rfl, rfl⟩
  · have h1 : ¬ (4096 : Int) < (n : Int) := by omega
    rw [decide_eq_false h]
    go_enter Try.func7, Try.ntmps7
    go_wp2_with fail
    go_ret
    exact ⟨rfl, rfl⟩
set_option maxHeartbeats 1000000 in
theorem f6ints_same (A B : Option Addr) (c d : Nat) (xs : List Int) (w : World) (hA : RI w A xs) (hB : RI w B xs) (hn : xs.length ≤ 1048576) :
    Calls Try.prog 43 #[.slice A xs.length c, .slice B xs.length d] w (RetQ w (.bool true)) := by
  have hnm : ((xs.length : Int) != (xs.length : Int)) = false := by simp
  go_enter Try.func43, Try.ntmps43
  go_wp2
  go_loopw [5] (fun i wr => ∃ (k : Nat), k ≤ xs.length ∧ i = .int .i64 k ∧ ∃ n, wr = w.drewN n)
    (fun i _ => xs.length - (intOf i).toNat)
  case atStart => exact ⟨0, Nat.zero_le _, rfl, 0, rfl⟩
  case round =>
    obtain ⟨k, hk, rfl, n, rfl⟩ := hrel
    by_cases hlt : k < xs.length
    · obtain ⟨b, off, x, rfl, hb, hx, hc⟩ := hA.at_ hlt
      obtain ⟨b', off', y, rfl, hb', hy, hc'⟩ := hB.at_ (k := k) hlt
      obtain rfl : y = x := by rw [hx] at hy; injection hy with hy; exact hy.symm
      have hne : (y != y) = false := by simp
      go_wp2_with fail
      go_quiet (fail)
      go_wp2
      go_roundw
      case rel => exact ⟨k + 1, by omega, by go_num, _, rfl⟩
      case measure => simp [intOf]; omega
    · go_wp2
      go_ret
      exact ⟨rfl, _, rfl⟩
set_option maxHeartbeats 1000000 in
theorem f6lists_same (A B : Option Addr) (c d T1 T2 : Nat) (xs : List (List Int)) (w : World) (hA : RC w T1 A xs) (hB : RC w T2 B xs) (hn : xs.length + sumLen xs ≤ 1048576) :
    Calls Try.prog 44 #[.slice A xs.length c, .slice B xs.length d] w (RetQ w (.bool true)) := by
  have hnm : ((xs.length : Int) != (xs.length : Int)) = false := by simp
  go_enter Try.func44, Try.ntmps44
  go_wp2
  go_loopw [5] (fun i wr => ∃ (k : Nat), k ≤ xs.length ∧ i = .int .i64 k ∧ ∃ n, wr = w.drewN n)
    (fun i _ => xs.length - (intOf i).toNat)
  case atStart => exact ⟨0, Nat.zero_le _, rfl, 0, rfl⟩
  case round =>
    obtain ⟨k, hk, rfl, n, hwn⟩ := hrel
    have hA1 : RC wr T1 A xs := by rw [hwn]; exact hA.drewN n
    have hB1 : RC wr T2 B xs := by rw [hwn]; exact hB.drewN n
    have HWN := hide hwn
    clear hwn
    by_cases hlt : k < xs.length
    · obtain ⟨b, off, E, f, x, rfl, hb, hx, hc, _, _, hrx⟩ := hA1.row hlt
      obtain ⟨b', off', E', f', y, rfl, hb', hy, hc', _, _, hry⟩ := hB1.row (k := k) hlt
      obtain rfl : y = x := by rw [hx] at hy; injection hy with hy; exact hy.symm
      have hxl := sumLen_row hx
      clear hx hy
      go_wp2_with fail
      go_quiet ((go_at_call 43; exact Calls.quiet_of (f6ints_same _ _ _ _ y _ (hrx.drewN _) (hry.drewN _) (by omega))))
      go_wp2_with fail
      go_roundw
      case rel => exact ⟨k + 1, by omega, by go_num, _, by rw [HWN.out, World.drewN_drewN]⟩
      case measure => simp [intOf]; omega
    · go_wp2
      go_ret
      exact ⟨rfl, _, HWN.out⟩
set_option maxHeartbeats 1000000 in
theorem sameCode_same (A B : Option Addr) (c d T1 T2 : Nat) (xs : List (List Int)) (w : World) (hA : RC w T1 A xs) (hB : RC w T2 B xs) (hn : xs.length + sumLen xs ≤ 1048576) :
    Calls Try.prog 29 #[.slice A xs.length c, .slice B xs.length d] w (RetQ w (.bool true)) := by
  have hnm : ((xs.length : Int) != (xs.length : Int)) = false := by simp
  go_enter Try.func29, Try.ntmps29
  go_wp2
  go_loopw [5] (fun i wr => ∃ (k : Nat), k ≤ xs.length ∧ i = .int .i64 k ∧ ∃ n, wr = w.drewN n)
    (fun i _ => xs.length - (intOf i).toNat)
  case atStart => exact ⟨0, Nat.zero_le _, rfl, 0, rfl⟩
  case round =>
    obtain ⟨k, hk, rfl, n, hwn⟩ := hrel
    have hA1 : RC wr T1 A xs := by rw [hwn]; exact hA.drewN n
    have hB1 : RC wr T2 B xs := by rw [hwn]; exact hB.drewN n
    have HWN := hide hwn
    clear hwn
    by_cases hlt : k < xs.length
    · obtain ⟨b, off, E, f, x, rfl, hb, hx, hc, _, _, hrx⟩ := hA1.row hlt
      obtain ⟨b', off', E', f', y, rfl, hb', hy, hc', _, _, hry⟩ := hB1.row (k := k) hlt
      obtain rfl : y = x := by rw [hx] at hy; injection hy with hy; exact hy.symm
      have hxl := sumLen_row hx
      have hdd : decide (y = y) = true := by simp
      clear hx hy
      go_wp2_with fail
      go_quiet ((go_at_call 83; exact Calls.quiet_of (l00Same_any _ _ _ _ y y _ (hrx.drewN _) (hry.drewN _) (by omega) (by omega))))
      go_wp2_with fail
      go_roundw
      case rel => exact ⟨k + 1, by omega, by go_num, _, by rw [HWN.out, World.drewN_drewN]⟩
      case measure => simp [intOf]; omega
    · go_wp2
      go_ret
      exact ⟨rfl, _, HWN.out⟩
/-- how many crossings, and a code -/
def countR (code : List (List Int)) : Int × Int := if validC code = true then (((sumLen code / 2 : Nat) : Int), 0) else (0, 1)
theorem implCountCoded_any (A : Option Addr) (c T : Nat) (code : List (List Int)) (w : World) (hc : RC w T A code) (hn : code.length + sumLen code ≤ 1048576) :
    Calls Try.prog 45 #[.slice A code.length c] w (RetV w (.tuple #[.int .i64 (countR code).1, .int .i64 (countR code).2])) := by
  cases hv : validC code
  · have hr : countR code = (0, 1) := by unfold countR; rw [hv]; rfl
    rw [hr]
    go_enter Try.func45, Try.ntmps45
    go_wp2_with fail
    refine (validCode_any _ _ T code _ hc hn).mono ?_
    rw [hv]
    rintro e w1 ⟨rfl, hb1⟩
    go_wp2_with fail
    go_ret2
    exact ⟨rfl, hb1⟩
  · have hr : countR code = (((sumLen code / 2 : Nat) : Int), 0) := by unfold countR; rw [hv]; rfl
    rw [hr]
    go_enter Try.func45, Try.ntmps45
    go_wp2_with fail
    refine (validCode_any _ _ T code _ hc hn).mono ?_
    rw [hv]
    rintro e w1 ⟨rfl, hb1⟩
    have HC := hide (countCoded_any A c T code _ (hc.below hb1) hn)
    go_wp2_with fail
    refine HC.out.mono ?_
    rintro e w2 ⟨rfl, rfl⟩
    go_wp2_with fail
    go_ret2
    exact ⟨rfl, hb1⟩
end Go.Proofs.Ytnjojnnapdhijaa

namespace Go.Proofs.Ytnjojnnapdhijaa
open Go.RowKit
set_option linter.unusedVariables false

theorem low_in (n : Int) (w : World) (h : 0 ≤ n ∧ n ≤ 6) : Calls Try.prog 65 #[.int .i64 n, .int .i64 0, .int .i64 6] w fun e w' => e = .returned (.bool true) ∧ w = w' := by
  go_enter Try.func65, Try.ntmps65
  go_wp2
  go_ret
  exact ⟨rfl, rfl⟩
theorem low_out (n : Int) (w : World) (h : n < 0 ∨ 6 < n) : Calls Try.prog 65 #[.int .i64 n, .int .i64 0, .int .i64 6] w fun e w' => e = .returned (.bool false) ∧ w = w' := by
  rcases h with h | h
  · go_enter Try.func65, Try.ntmps65
    go_wp2
    go_ret
    exact ⟨rfl, rfl⟩
  · have h' : ¬ n ≤ 6 := by omega
    have h'' : (0 : Int) ≤ n := by omega
    go_enter Try.func65, Try.ntmps65
    go_wp2
    go_ret
    exact ⟨rfl, rfl⟩

end Go.Proofs.Ytnjojnnapdhijaa

namespace Go.Proofs.Ytnjojnnapdhijaa
open Go.RowKit
set_option linter.unusedVariables false

/-- the name of a fault, in bytes -/
def nmB (n : Int) : ByteArray := if n = 0 then ⟨#[110, 111, 110, 101]⟩ else if n = 1 then ⟨#[109, 97, 110, 121]⟩ else if n = 2 then ⟨#[122, 101, 114, 111]⟩ else if n = 3 then ⟨#[114, 97, 110, 103, 101]⟩ else if n = 4 then ⟨#[116, 119, 105, 99, 101]⟩ else if n = 5 then ⟨#[97, 98, 115, 101, 110, 116]⟩ else if n = 6 then ⟨#[112, 97, 114, 105, 116, 121]⟩ else ⟨#[]⟩
theorem nil_list : (⟨#[]⟩ : ByteArray).toList = [] := ByteArray.toList_mk []
theorem some_list {l : List UInt8} {s : ByteArray} (hs : s = ⟨l.toArray⟩) (hl : l ≠ []) : (s.toList == (⟨#[]⟩ : ByteArray).toList) = false := by
  rw [hs, nil_list, ByteArray.toList_mk]
  cases l with
  | nil => exact absurd rfl hl
  | cons a r => rfl
theorem nmB_ne {n : Int} (h0 : 0 ≤ n) (h6 : n ≤ 6) : ((nmB n).toList == (⟨#[]⟩ : ByteArray).toList) = false := by
  obtain rfl | rfl | rfl | rfl | rfl | rfl | rfl : n = 0 ∨ n = 1 ∨ n = 2 ∨ n = 3 ∨ n = 4 ∨ n = 5 ∨ n = 6 := by omega
  all_goals exact some_list (l := _ :: _) rfl (by simp)
theorem strb_no (W : World) (t : TypeId) (P : Program) {m : ByteArray} (h : (m.toList == (⟨#[]⟩ : ByteArray).toList) = false) : (binOp .eql t (.string m) (.string ⟨#[]⟩)).run P W = .ok (.bool false) W := by
  rw [binOp_string_eql, h]
  rfl
theorem strb_same (W : World) (t : TypeId) (P : Program) (m : ByteArray) : (binOp .neq t (.string m) (.string m)).run P W = .ok (.bool false) W := by
  rw [binOp_string_neq]
  simp
theorem guardb' (W : World) (x y : Operand) (m : ByteArray) : (eqGuard .neq 9 x y (.string m) (.string m)).run Try.prog W = .ok () W := by
  simp [eqGuard, go_sem]
theorem guardb (W : World) (x y : Operand) (m : ByteArray) : (eqGuard .eql 9 x y (.string m) (.string ⟨#[]⟩)).run Try.prog W = .ok () W := by
  simp [eqGuard, go_sem]
set_option maxHeartbeats 1600000 in
theorem implFaultName_any (n : Int) (w : World) : Calls Try.prog 15 #[.int .i64 n] w fun e w' => e = .returned (.string (nmB n)) ∧ w = w' := by
  by_cases h : 0 ≤ n ∧ n ≤ 6
  · obtain rfl | rfl | rfl | rfl | rfl | rfl | rfl : n = 0 ∨ n = 1 ∨ n = 2 ∨ n = 3 ∨ n = 4 ∨ n = 5 ∨ n = 6 := by omega
    all_goals
      go_enter Try.func15, Try.ntmps15
      go_wp2_with fail
      go_ret
      exact ⟨rfl, rfl⟩
  · have e0 : (n == 0) = false := by simp; omega
    have e1 : (n == 1) = false := by simp; omega
    have e2 : (n == 2) = false := by simp; omega
    have e3 : (n == 3) = false := by simp; omega
    have e4 : (n == 4) = false := by simp; omega
    have e5 : (n == 5) = false := by simp; omega
    have e6 : (n == 6) = false := by simp; omega
    have HV : Hid (nmB n = ⟨#[]⟩) := hide (by unfold nmB; rw [if_neg (by omega), if_neg (by omega), if_neg (by omega), if_neg (by omega), if_neg (by omega), if_neg (by omega), if_neg (by omega)])
    go_enter Try.func15, Try.ntmps15
    go_wp2_with fail
    go_ret
    rw [HV.out]
    exact ⟨rfl, rfl⟩
set_option maxHeartbeats 1600000 in
theorem specFaultName_any (n : Int) (w : World) : Calls Try.prog 16 #[.int .i64 n] w (RetV w (.string (nmB n))) := by
  by_cases h : 0 ≤ n ∧ n ≤ 6
  · obtain rfl | rfl | rfl | rfl | rfl | rfl | rfl : n = 0 ∨ n = 1 ∨ n = 2 ∨ n = 3 ∨ n = 4 ∨ n = 5 ∨ n = 6 := by omega
    all_goals
      go_enter Try.func16, Try.ntmps16
      go_wp2_with (go_at_call 65; refine (low_in _ _ (by omega)).mono ?_; rintro e w' ⟨rfl, rfl⟩)
      go_ret
      exact ⟨rfl, by repeat (first | exact Below.refl _ _ | apply Below.drew | (refine Below.alloc ?_ (by simp) _))⟩
  · have h' : n < 0 ∨ 6 < n := by omega
    have HV : Hid (nmB n = ⟨#[]⟩) := hide (by unfold nmB; rw [if_neg (by omega), if_neg (by omega), if_neg (by omega), if_neg (by omega), if_neg (by omega), if_neg (by omega), if_neg (by omega)])
    go_enter Try.func16, Try.ntmps16
    go_wp2_with (go_at_call 65; refine (low_out _ _ h').mono ?_; rintro e w' ⟨rfl, rfl⟩)
    go_ret
    rw [HV.out]
    exact ⟨rfl, by repeat (first | exact Below.refl _ _ | apply Below.drew | (refine Below.alloc ?_ (by simp) _))⟩
theorem specCodeFaultF_any (A : Option Addr) (c T : Nat) (code : List (List Int)) (w : World) (hc : RC w T A code) (hn : code.length + sumLen code ≤ 1048576) :
    Calls Try.prog 10 #[.slice A code.length c] w (RetV w (fV (faultC code))) := by
  obtain ⟨a, b, d, h⟩ : ∃ a b d : Int, faultC code = (a, b, d) := ⟨_, _, _, rfl⟩
  have H := hide (fV_mk h)
  clear h
  go_enter Try.func10, Try.ntmps10
  go_wp2_with fail
  refine (specFault_any _ _ T code _ hc hn).mono ?_
  rw [H.out]
  rintro e w1 ⟨rfl, hb⟩
  go_wp2_with fail
  refine bodyPost_ret (v := .tuple #[.int .i64 a, .int .i64 b, .int .i64 d]) (by simp [results, Try.results10, go_sem]) rfl ?_
  rw [H.out]
  exact ⟨rfl, hb⟩
theorem codeR_zero {wd ht : Int} {xs : List Int} (h : (codeR wd ht xs).2 = 0) : (codeR wd ht xs).1.length + sumLen (codeR wd ht xs).1 ≤ 1048576 ∧ faultC (codeR wd ht xs).1 = (0, 0, 0) := by
  cases hv : vldPan wd ht xs
  · rw [codeR_no hv] at h
    cases h
  · by_cases h2 : 40 < (curL wd ht xs).length
    · rw [codeR_big hv h2] at h
      cases h
    · rw [codeR_ok hv h2]
      obtain ⟨v1, v2, hl, v4⟩ := vldPan_true hv
      have hs : Sz wd ht := ⟨(inB_true.1 v1).1, (inB_true.1 v1).2, (inB_true.1 v2).1, (inB_true.1 v2).2⟩
      have hsum := valid_sum (codN_valid hs hl (by omega))
      exact ⟨by simp only; omega, codN_fault hs hl v4 (by omega)⟩

set_option maxRecDepth 40000 in
set_option maxHeartbeats 16000000 in
theorem walk_LFaults (w : World) (A0 : Option Addr) (c0 : Nat) (xs0 : List Int) (hx0 : ArgB w A0 c0 xs0) :
    Calls Try.prog 3 #[.slice A0 xs0.length c0] w fun e w' => e = .returned (.bool true) ∧ Below w.heap.size w w' := by
  obtain ⟨hl, hm, hr, hb⟩ := hx0
  by_cases hlong : 4096 < xs0.length
  · have hd := decide_eq_true hlong
    go_enter Try.func3, Try.ntmps3
    go_wp2_with fail
    refine (f6big_any A0 xs0.length c0 w).mono ?_
    rintro e w1 ⟨rfl, rfl⟩
    rw [hd]
    go_wp2_with fail
    go_ret
    exact ⟨rfl, Below.refl _ _⟩
  · have hd := decide_eq_false hlong
    have hn0 : xs0.length ≤ 1048576 := by omega
    have HB := hide hb
    go_enter Try.func3, Try.ntmps3
    go_wp2_with fail
    refine (f6big_any A0 xs0.length c0 w).mono ?_
    rintro e w0 ⟨rfl, rfl⟩
    rw [hd]
    go_wp2_with fail
    refine (drawCodeFault_any A0 c0 xs0 w hr HB.out hn0).mono ?_
    rintro e w1 ⟨X, BX, dX, rfl, hXb, rX, hb1⟩
    have hXl := (hXb.lenA (by omega) (by omega)).2
    have a0_1 := (hr).below hb1
    have z_1 : w.heap.size ≤ w1.heap.size := hb1.size
    have B_1 := (Below.refl w.heap.size w).trans (hb1.mono (by first | omega | (simp; omega) | simp))
    clear hd hlong hl hm hb hXb
    obtain ⟨a, b, d, hF⟩ : ∃ a b d : Int, faultC X = (a, b, d) := ⟨_, _, _, rfl⟩
    have hak := kind_range X
    have hvi := valid_iff X
    rw [hF] at hak hvi
    dsimp only at hak hvi
    have HIA : Hid (∀ (W : World) (T : Nat), RC W T BX X → Calls Try.prog 9 #[.slice BX X.length dX] W (RetV W (.tuple #[.int .i64 a, .int .i64 b, .int .i64 d]))) := hide fun W T h => by
      have := implFault_any BX dX T X W h hXl
      rw [fV_mk hF] at this
      exact this
    have HSA : Hid (∀ (W : World) (T : Nat), RC W T BX X → Calls Try.prog 10 #[.slice BX X.length dX] W (RetV W (.tuple #[.int .i64 a, .int .i64 b, .int .i64 d]))) := hide fun W T h => by
      have := specCodeFaultF_any BX dX T X W h hXl
      rw [fV_mk hF] at this
      exact this
    have HVX : Hid (∀ (W : World) (T : Nat), RC W T BX X → Calls Try.prog 17 #[.slice BX X.length dX] W (RetV W (.bool (validC X)))) := hide fun W T h => validCode_any BX dX T X W h hXl
    obtain ⟨vX, hvX⟩ : ∃ vX, vX = validC X := ⟨_, rfl⟩
    rw [← hvX] at HVX hvi
    have HVI := hide hvi
    clear hF hvi hvX
    go_wp2_with fail
    refine (HIA.out _ _ (rX).rc).mono ?_
    rintro e w2 ⟨rfl, hb2⟩
    have a0_2 := (a0_1).below hb2
    have rX_2 := (rX).below hb2
    have z_2 : w1.heap.size ≤ w2.heap.size := hb2.size
    have B_2 := (B_1).trans (hb2.mono (by first | omega | (simp; omega) | simp))
    go_wp2_with fail
    refine (HSA.out _ _ (rX_2).rc).mono ?_
    rintro e w3 ⟨rfl, hb3⟩
    have a0_3 := (a0_2).below hb3
    have rX_3 := (rX_2).below hb3
    have z_3 : w2.heap.size ≤ w3.heap.size := hb3.size
    have B_3 := (B_2).trans (hb3.mono (by first | omega | (simp; omega) | simp))
    go_wp2_with fail
    refine (drawEvenlySpaced_any A0 c0 xs0 _ (a0_3) HB.out hn0).mono ?_
    rintro e w4 ⟨E, BE, dE, kE, rfl, hEb, rE, hb4⟩
    have hEl := (hEb.lenA (by omega) (by omega)).2
    clear hEb
    have a0_4 := (a0_3).below hb4
    have rX_4 := (rX_3).below hb4
    have z_4 : w3.heap.size ≤ w4.heap.size := hb4.size
    have B_4 := (B_3).trans (hb4.mono (by first | omega | (simp; omega) | simp))
    have HIE : Hid (∀ (W : World) (T : Nat), RC W T BE E → Calls Try.prog 13 #[.slice BE E.length dE, .int .i64 kE] W (RetV W (.bool (evenB E kE)))) := hide fun W T h => implEven_any BE dE T E kE W h hEl
    have HSE : Hid (∀ (W : World) (T : Nat), RC W T BE E → Calls Try.prog 14 #[.slice BE E.length dE, .int .i64 kE] W (RetV W (.bool (evenB E kE)))) := hide fun W T h => specEven_any BE dE T E kE W h hEl
    obtain ⟨ev, hev⟩ : ∃ ev, ev = evenB E kE := ⟨_, rfl⟩
    rw [← hev] at HIE HSE
    clear hev
    go_wp2_with fail
    refine (drawCodeFaultName_any A0 c0 xs0 _ (a0_4) HB.out hn0).mono ?_
    rintro e w5 ⟨n, hn1, hn2, rfl, hb5⟩
    have a0_5 := (a0_4).below hb5
    have rX_5 := (rX_4).below hb5
    have rE_5 := (rE).below hb5
    have z_5 : w4.heap.size ≤ w5.heap.size := hb5.size
    have B_5 := (B_4).trans (hb5.mono (by first | omega | (simp; omega) | simp))
    have HNM := hide (nmB_ne (n := a) hak.1 hak.2)
    have HIN := hide (fun W => implFaultName_any n W)
    have HSN := hide (fun W => specFaultName_any n W)
    have HIM := hide (fun W => implFaultName_any a W)
    obtain ⟨s, hs⟩ : ∃ s, s = nmB n := ⟨_, rfl⟩
    obtain ⟨m, hm⟩ : ∃ m, m = nmB a := ⟨_, rfl⟩
    rw [← hs] at HIN HSN
    rw [← hm] at HIM HNM
    clear hs hm
    have q1 : (a != a) = false := by simp
    have q2 : (b != b) = false := by simp
    have q3 : (d != d) = false := by simp
    have q4 : (ev != ev) = false := by simp
    have q5 : ∀ W : World, (binOp .neq 9 (.string s) (.string s)).run Try.prog W = .ok (.bool false) W := fun W => strb_same W _ _ s
    have q8 := fun (W : World) (x y : Operand) => guardb' W x y s
    have q6 : m.toList.isEmpty = false := by
      have h := HNM.out
      rw [nil_list] at h
      cases hm : m.toList with
      | nil => rw [hm] at h; cases h
      | cons a r => rfl
    go_wp2_with fail
    refine (HIE.out _ _ (rE_5).rc).mono ?_
    rintro e w6 ⟨rfl, hb6⟩
    have a0_6 := (a0_5).below hb6
    have rX_6 := (rX_5).below hb6
    have rE_6 := (rE_5).below hb6
    have z_6 : w5.heap.size ≤ w6.heap.size := hb6.size
    have B_6 := (B_5).trans (hb6.mono (by first | omega | (simp; omega) | simp))
    go_wp2_with fail
    refine (HSE.out _ _ (rE_6).rc).mono ?_
    rintro e w7 ⟨rfl, hb7⟩
    have a0_7 := (a0_6).below hb7
    have rX_7 := (rX_6).below hb7
    have rE_7 := (rE_6).below hb7
    have z_7 : w6.heap.size ≤ w7.heap.size := hb7.size
    have B_7 := (B_6).trans (hb7.mono (by first | omega | (simp; omega) | simp))
    go_wp2_with fail
    refine (HIN.out _).mono ?_
    rintro e w7 ⟨rfl, rfl⟩
    go_wp2_with fail
    refine (HSN.out _).mono ?_
    rintro e w8 ⟨rfl, hb8⟩
    have a0_8 := (a0_7).below hb8
    have rX_8 := (rX_7).below hb8
    have rE_8 := (rE_7).below hb8
    have z_8 : w7.heap.size ≤ w8.heap.size := hb8.size
    have B_8 := (B_7).trans (hb8.mono (by first | omega | (simp; omega) | simp))
    clear HIA HSA HIE HSE HIN HSN
    go_wp2_with fail
    refine (HVX.out _ _ (rX_8).rc).mono ?_
    rintro e w9 ⟨rfl, hb9⟩
    have a0_9 := (a0_8).below hb9
    have rX_9 := (rX_8).below hb9
    have rE_9 := (rE_8).below hb9
    have z_9 : w8.heap.size ≤ w9.heap.size := hb9.size
    have B_9 := (B_8).trans (hb9.mono (by first | omega | (simp; omega) | simp))
    by_cases ha0 : a = 0
    · subst ha0
      obtain rfl : vX = true := by rw [HVI.out]; exact decide_eq_true (.inl rfl)
      go_wp2_with fail
      refine (HIM.out _).mono ?_
      rintro e w9 ⟨rfl, rfl⟩
      go_wp2_with fail
      refine (drawCountCurves_any A0 c0 xs0 _ (a0_9) HB.out hn0).mono ?_
      rintro e w10 ⟨wd, ht, ys, BP, dP, rfl, hyl, oP, hb10⟩
      have a0_10 := (a0_9).below hb10
      have rX_10 := (rX_9).below hb10
      have rE_10 := (rE_9).below hb10
      have z_10 : w9.heap.size ≤ w10.heap.size := hb10.size
      have B_10 := (B_9).trans (hb10.mono (by first | omega | (simp; omega) | simp))
      obtain ⟨pa_x1, pb_x1, pc_x1⟩ := (Bx.new_ w10 (w10.heap.size) 36 #[.int .i64 wd, .int .i64 ht, .slice BP ys.length dP] (by simp)).three
      have hcap := oP.cap
      have HCO := hide (fun (W : World) (h : RI W BP ys) => codeOf_any wd ht BP dP ys W h ⟨hcap.1, by simpa [maxLen] using hcap.2⟩ (by omega))
      have HCZ := hide (codeR_zero (wd := wd) (ht := ht) (xs := ys))
      obtain ⟨C, hC⟩ : ∃ C, C = (codeR wd ht ys).1 := ⟨_, rfl⟩
      obtain ⟨v, hv⟩ : ∃ v, v = (codeR wd ht ys).2 := ⟨_, rfl⟩
      rw [← hC, ← hv] at HCO HCZ
      clear hC hv hcap
      go_wp2_with fail
      refine (HCO.out _ (((oP).alloc (.cells #[.int .i64 wd, .int .i64 ht, .slice BP ys.length dP] 36))).rd).mono ?_
      rintro e w11 ⟨AC, cC, rfl, oC, hb11⟩
      have a0_11 := ((a0_10).alloc (.cells #[.int .i64 wd, .int .i64 ht, .slice BP ys.length dP] 36)).below hb11
      have rX_11 := ((rX_10).alloc (.cells #[.int .i64 wd, .int .i64 ht, .slice BP ys.length dP] 36)).below hb11
      have rE_11 := ((rE_10).alloc (.cells #[.int .i64 wd, .int .i64 ht, .slice BP ys.length dP] 36)).below hb11
      have oP_11 := ((oP).alloc (.cells #[.int .i64 wd, .int .i64 ht, .slice BP ys.length dP] 36)).below hb11
      have p_11 := (Bx.new_ w10 (w10.heap.size) 36 #[.int .i64 wd, .int .i64 ht, .slice BP ys.length dP] (by simp)).below hb11
      obtain ⟨pa_11, pb_11, pc_11⟩ := (p_11).three
      have z_11 : (w10.alloc (.cells #[.int .i64 wd, .int .i64 ht, .slice BP ys.length dP] 36)).heap.size ≤ w11.heap.size := hb11.size
      simp only [World.size_alloc] at z_11
      have B_11 := ((B_10).alloc (by first | omega | (simp; omega) | simp) (.cells #[.int .i64 wd, .int .i64 ht, .slice BP ys.length dP] 36)).trans (hb11.mono (by first | omega | (simp; omega) | simp))
      by_cases hv0 : v = 0
      · subst hv0
        obtain ⟨hcl, hcf⟩ := HCZ.out rfl
        have HCF := hide (implFault_any AC cC _ C _ oC.rd hcl)
        rw [fV_mk hcf] at HCF
        clear hcf
        go_wp2_with fail
        refine HCF.out.mono ?_
        rintro e w12 ⟨rfl, hb12⟩
        have HBF := hide (((B_11)).trans (hb12.mono ((B_11)).size))
        go_wp2_with fail
        go_ret
        exact ⟨rfl, HBF.out⟩
      · have hv1 : (v != 0) = true := by simpa using hv0
        have HBF := hide (B_11)
        go_wp2_with fail
        go_ret
        exact ⟨rfl, HBF.out⟩
    · have e0 : (a == 0) = false := by simpa using ha0
      by_cases ha6 : a = 6
      · subst ha6
        obtain rfl : vX = true := by rw [HVI.out]; exact decide_eq_true (.inr rfl)
        go_wp2_with fail
        refine (HIM.out _).mono ?_
        rintro e w9 ⟨rfl, rfl⟩
        go_wp2_with fail
        refine (drawCountCurves_any A0 c0 xs0 _ (a0_9) HB.out hn0).mono ?_
        rintro e w10 ⟨wd, ht, ys, BP, dP, rfl, hyl, oP, hb10⟩
        have a0_10 := (a0_9).below hb10
        have rX_10 := (rX_9).below hb10
        have rE_10 := (rE_9).below hb10
        have z_10 : w9.heap.size ≤ w10.heap.size := hb10.size
        have B_10 := (B_9).trans (hb10.mono (by first | omega | (simp; omega) | simp))
        obtain ⟨pa_x1, pb_x1, pc_x1⟩ := (Bx.new_ w10 (w10.heap.size) 36 #[.int .i64 wd, .int .i64 ht, .slice BP ys.length dP] (by simp)).three
        have hcap := oP.cap
        have HCO := hide (fun (W : World) (h : RI W BP ys) => codeOf_any wd ht BP dP ys W h ⟨hcap.1, by simpa [maxLen] using hcap.2⟩ (by omega))
        have HCZ := hide (codeR_zero (wd := wd) (ht := ht) (xs := ys))
        obtain ⟨C, hC⟩ : ∃ C, C = (codeR wd ht ys).1 := ⟨_, rfl⟩
        obtain ⟨v, hv⟩ : ∃ v, v = (codeR wd ht ys).2 := ⟨_, rfl⟩
        rw [← hC, ← hv] at HCO HCZ
        clear hC hv hcap
        go_wp2_with fail
        refine (HCO.out _ (((oP).alloc (.cells #[.int .i64 wd, .int .i64 ht, .slice BP ys.length dP] 36))).rd).mono ?_
        rintro e w11 ⟨AC, cC, rfl, oC, hb11⟩
        have a0_11 := ((a0_10).alloc (.cells #[.int .i64 wd, .int .i64 ht, .slice BP ys.length dP] 36)).below hb11
        have rX_11 := ((rX_10).alloc (.cells #[.int .i64 wd, .int .i64 ht, .slice BP ys.length dP] 36)).below hb11
        have rE_11 := ((rE_10).alloc (.cells #[.int .i64 wd, .int .i64 ht, .slice BP ys.length dP] 36)).below hb11
        have oP_11 := ((oP).alloc (.cells #[.int .i64 wd, .int .i64 ht, .slice BP ys.length dP] 36)).below hb11
        have p_11 := (Bx.new_ w10 (w10.heap.size) 36 #[.int .i64 wd, .int .i64 ht, .slice BP ys.length dP] (by simp)).below hb11
        obtain ⟨pa_11, pb_11, pc_11⟩ := (p_11).three
        have z_11 : (w10.alloc (.cells #[.int .i64 wd, .int .i64 ht, .slice BP ys.length dP] 36)).heap.size ≤ w11.heap.size := hb11.size
        simp only [World.size_alloc] at z_11
        have B_11 := ((B_10).alloc (by first | omega | (simp; omega) | simp) (.cells #[.int .i64 wd, .int .i64 ht, .slice BP ys.length dP] 36)).trans (hb11.mono (by first | omega | (simp; omega) | simp))
        by_cases hv0 : v = 0
        · subst hv0
          obtain ⟨hcl, hcf⟩ := HCZ.out rfl
          have HCF := hide (implFault_any AC cC _ C _ oC.rd hcl)
          rw [fV_mk hcf] at HCF
          clear hcf
          go_wp2_with fail
          refine HCF.out.mono ?_
          rintro e w12 ⟨rfl, hb12⟩
          have HBF := hide (((B_11)).trans (hb12.mono ((B_11)).size))
          go_wp2_with fail
          go_ret
          exact ⟨rfl, HBF.out⟩
        · have hv1 : (v != 0) = true := by simpa using hv0
          have HBF := hide (B_11)
          go_wp2_with fail
          go_ret
          exact ⟨rfl, HBF.out⟩
      · have e6 : (a == 6) = false := by simpa using ha6
        obtain rfl : vX = false := by rw [HVI.out]; exact decide_eq_false (by omega)
        go_wp2_with fail
        refine (HIM.out _).mono ?_
        rintro e w9 ⟨rfl, rfl⟩
        go_wp2_with fail
        refine (drawCountCurves_any A0 c0 xs0 _ (a0_9) HB.out hn0).mono ?_
        rintro e w10 ⟨wd, ht, ys, BP, dP, rfl, hyl, oP, hb10⟩
        have a0_10 := (a0_9).below hb10
        have rX_10 := (rX_9).below hb10
        have rE_10 := (rE_9).below hb10
        have z_10 : w9.heap.size ≤ w10.heap.size := hb10.size
        have B_10 := (B_9).trans (hb10.mono (by first | omega | (simp; omega) | simp))
        obtain ⟨pa_x1, pb_x1, pc_x1⟩ := (Bx.new_ w10 (w10.heap.size) 36 #[.int .i64 wd, .int .i64 ht, .slice BP ys.length dP] (by simp)).three
        have hcap := oP.cap
        have HCO := hide (fun (W : World) (h : RI W BP ys) => codeOf_any wd ht BP dP ys W h ⟨hcap.1, by simpa [maxLen] using hcap.2⟩ (by omega))
        have HCZ := hide (codeR_zero (wd := wd) (ht := ht) (xs := ys))
        obtain ⟨C, hC⟩ : ∃ C, C = (codeR wd ht ys).1 := ⟨_, rfl⟩
        obtain ⟨v, hv⟩ : ∃ v, v = (codeR wd ht ys).2 := ⟨_, rfl⟩
        rw [← hC, ← hv] at HCO HCZ
        clear hC hv hcap
        go_wp2_with fail
        refine (HCO.out _ (((oP).alloc (.cells #[.int .i64 wd, .int .i64 ht, .slice BP ys.length dP] 36))).rd).mono ?_
        rintro e w11 ⟨AC, cC, rfl, oC, hb11⟩
        have a0_11 := ((a0_10).alloc (.cells #[.int .i64 wd, .int .i64 ht, .slice BP ys.length dP] 36)).below hb11
        have rX_11 := ((rX_10).alloc (.cells #[.int .i64 wd, .int .i64 ht, .slice BP ys.length dP] 36)).below hb11
        have rE_11 := ((rE_10).alloc (.cells #[.int .i64 wd, .int .i64 ht, .slice BP ys.length dP] 36)).below hb11
        have oP_11 := ((oP).alloc (.cells #[.int .i64 wd, .int .i64 ht, .slice BP ys.length dP] 36)).below hb11
        have p_11 := (Bx.new_ w10 (w10.heap.size) 36 #[.int .i64 wd, .int .i64 ht, .slice BP ys.length dP] (by simp)).below hb11
        obtain ⟨pa_11, pb_11, pc_11⟩ := (p_11).three
        have z_11 : (w10.alloc (.cells #[.int .i64 wd, .int .i64 ht, .slice BP ys.length dP] 36)).heap.size ≤ w11.heap.size := hb11.size
        simp only [World.size_alloc] at z_11
        have B_11 := ((B_10).alloc (by first | omega | (simp; omega) | simp) (.cells #[.int .i64 wd, .int .i64 ht, .slice BP ys.length dP] 36)).trans (hb11.mono (by first | omega | (simp; omega) | simp))
        by_cases hv0 : v = 0
        · subst hv0
          obtain ⟨hcl, hcf⟩ := HCZ.out rfl
          have HCF := hide (implFault_any AC cC _ C _ oC.rd hcl)
          rw [fV_mk hcf] at HCF
          clear hcf
          go_wp2_with fail
          refine HCF.out.mono ?_
          rintro e w12 ⟨rfl, hb12⟩
          have HBF := hide (((B_11)).trans (hb12.mono ((B_11)).size))
          go_wp2_with fail
          go_ret
          exact ⟨rfl, HBF.out⟩
        · have hv1 : (v != 0) = true := by simpa using hv0
          have HBF := hide (B_11)
          go_wp2_with fail
          go_ret
          exact ⟨rfl, HBF.out⟩
end Go.Proofs.Ytnjojnnapdhijaa
