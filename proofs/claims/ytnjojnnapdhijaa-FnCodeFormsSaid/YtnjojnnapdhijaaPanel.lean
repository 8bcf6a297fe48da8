/-
  Contracts: panels: the laws' helpers, and the two tests whether a panel is valid. Conditions: the lengths are far below the machine's.
-/
import Derived.Test.YtnjojnnapdhijaaGen
import Derived.Test.YtnjojnnapdhijaaPolyOk
namespace Go.Proofs.Ytnjojnnapdhijaa
open Go.RowKit
set_option linter.unusedVariables false

theorem below_drewN' {B : Nat} {a b : World} (h : Below B a b) (n : Nat) : Below B a (b.drewN n) := ⟨h.os, h.tape, h.output, h.size, h.block⟩
theorem RetQ.v {P : Program} {f : FuncId} {args : Array Value} {w : World} {v : Value} (h : Calls P f args w (RetQ w v)) : Calls P f args w (RetV w v) :=
  h.mono fun _ _ ⟨he, n, hw⟩ => ⟨he, by rw [hw]; exact below_drewN' (Below.refl _ _) n⟩
/-- A function that hands back a panel with breaks of its own. -/
def RetPan (w : World) (wd ht : Int) (xs : List Int) (e : Ending) (w' : World) : Prop :=
  ∃ A c, e = .returned (.agg #[.int .i64 wd, .int .i64 ht, .slice A xs.length c]) ∧ OwnI w' w.heap.size A c xs ∧ Below w.heap.size w w'

/-- the number of the inner points -/
def innerN (wd ht : Int) : Int := wd * (ht - 1) + ht * (wd - 1)
theorem mul_small {a b : Int} (a0 : 0 ≤ a) (a1 : a ≤ 8) (b0 : 0 ≤ b) (b1 : b ≤ 8) : 0 ≤ a * b ∧ a * b ≤ 64 := by
  refine ⟨Int.mul_nonneg a0 b0, ?_⟩
  have h1 : a * b ≤ 8 * b := Int.mul_le_mul_of_nonneg_right a1 b0
  omega
theorem l02Inner_any (wd ht : Int) (w : World) (hw : inB wd 1 8 = true) (hh : inB ht 1 8 = true) : Calls Try.prog 129 #[.int .i64 wd, .int .i64 ht] w fun e w' => e = .returned (.int .i64 (innerN wd ht)) ∧ w = w' := by
  obtain ⟨a1, a2⟩ := inB_true.1 hw
  obtain ⟨b1, b2⟩ := inB_true.1 hh
  obtain ⟨m1, m2⟩ := mul_small (a := wd) (b := ht - 1) (by omega) (by omega) (by omega) (by omega)
  obtain ⟨m3, m4⟩ := mul_small (a := ht) (b := wd - 1) (by omega) (by omega) (by omega) (by omega)
  go_enter Try.func129, Try.ntmps129
  go_wp2
  go_ret
  exact ⟨rfl, rfl⟩
theorem innerPoints_any (wd ht : Int) (w : World) (hw : inB wd 1 8 = true) (hh : inB ht 1 8 = true) : Calls Try.prog 109 #[.int .i64 wd, .int .i64 ht] w fun e w' => e = .returned (.int .i64 (innerN wd ht)) ∧ w = w' := by
  obtain ⟨a1, a2⟩ := inB_true.1 hw
  obtain ⟨b1, b2⟩ := inB_true.1 hh
  obtain ⟨m1, m2⟩ := mul_small (a := wd) (b := ht - 1) (by omega) (by omega) (by omega) (by omega)
  obtain ⟨m3, m4⟩ := mul_small (a := ht) (b := wd - 1) (by omega) (by omega) (by omega) (by omega)
  go_enter Try.func109, Try.ntmps109
  go_wp2
  go_ret
  exact ⟨rfl, rfl⟩
theorem l02Side_any (x : Int) (w : World) : Calls Try.prog 165 #[.int .i64 x] w fun e w' => e = .returned (.bool (inB x 1 8)) ∧ w = w' := by
  go_enter Try.func165, Try.ntmps165
  go_wp2_with (go_at_call 65; refine (l00In_any _ _ _ _).mono ?_; rintro e w' ⟨rfl, rfl⟩)
  go_ret
  exact ⟨rfl, rfl⟩
theorem validBreak_any (x : Int) (w : World) : Calls Try.prog 110 #[.int .i64 x] w fun e w' => e = .returned (.bool (inB x 0 2)) ∧ w = w' := by
  go_enter Try.func110, Try.ntmps110
  go_wp2_with (go_at_call 57; refine (inRange_any _ _ _ _).mono ?_; rintro e w' ⟨rfl, rfl⟩)
  go_ret
  exact ⟨rfl, rfl⟩
theorem validSize_any (x y : Int) (w : World) : Calls Try.prog 108 #[.int .i64 x, .int .i64 y] w fun e w' => e = .returned (.bool (inB x 1 8 && inB y 1 8)) ∧ w = w' := by
  cases hx : inB x 1 8
  · go_enter Try.func108, Try.ntmps108
    go_wp2_with (go_at_call 57; refine (inRange_any _ _ _ _).mono ?_; rintro e w' ⟨rfl, rfl⟩)
    go_ret
    exact ⟨rfl, rfl⟩
  · go_enter Try.func108, Try.ntmps108
    go_wp2_with (go_at_call 57; refine (inRange_any _ _ _ _).mono ?_; rintro e w' ⟨rfl, rfl⟩)
    go_ret
    exact ⟨by simp, rfl⟩

def breakB (x : Int) : Bool := inB x 0 2
/-- is a panel valid? -/
def vldPan (wd ht : Int) (xs : List Int) : Bool := inB wd 1 8 && (inB ht 1 8 && (decide ((xs.length : Int) = innerN wd ht) && xs.all breakB))
theorem vldPan_w {wd ht : Int} {xs : List Int} (h : inB wd 1 8 = false) : vldPan wd ht xs = false := by unfold vldPan; rw [h]; rfl
theorem vldPan_h {wd ht : Int} {xs : List Int} (h : inB ht 1 8 = false) : vldPan wd ht xs = false := by unfold vldPan; rw [h]; simp
theorem vldPan_n {wd ht : Int} {xs : List Int} (h : (xs.length : Int) ≠ innerN wd ht) : vldPan wd ht xs = false := by unfold vldPan; rw [decide_eq_false h]; simp
theorem vldPan_all {wd ht : Int} {xs : List Int} (h1 : inB wd 1 8 = true) (h2 : inB ht 1 8 = true) (h3 : (xs.length : Int) = innerN wd ht) : vldPan wd ht xs = xs.all breakB := by unfold vldPan; rw [h1, h2, decide_eq_true h3]; simp
theorem vldPan_true {wd ht : Int} {xs : List Int} (h : vldPan wd ht xs = true) : inB wd 1 8 = true ∧ inB ht 1 8 = true ∧ (xs.length : Int) = innerN wd ht ∧ xs.all breakB = true := by
  unfold vldPan at h
  rw [Bool.and_eq_true, Bool.and_eq_true, Bool.and_eq_true, decide_eq_true_eq] at h
  exact h

set_option maxHeartbeats 4000000 in
theorem l02Ok_any (b0 : Nat) (wd ht : Int) (A : Option Addr) (c : Nat) (xs : List Int) (w : World) (c0 : w.cell? ⟨b0, 0, none⟩ = some (.int .i64 wd)) (c1 : w.cell? ⟨b0, 1, none⟩ = some (.int .i64 ht)) (c2 : w.cell? ⟨b0, 2, none⟩ = some (.slice A xs.length c))
    (h : RI w A xs) (hn : xs.length ≤ 1048576) :
    Calls Try.prog 154 #[.pointer (some ⟨b0, 0, none⟩)] w (RetQ w (.bool (vldPan wd ht xs))) := by
  cases hw : inB wd 1 8
  · have HV := hide (vldPan_w (ht := ht) (xs := xs) hw)
    go_enter Try.func154, Try.ntmps154
    go_wp2_with fail
    go_quiet ((first | (go_at_call 165; exact quiet1 (l02Side_any _ _)) | fail))
    go_wp2_with fail
    go_ret
    rw [HV.out]
    exact ⟨rfl, _, rfl⟩
  · cases hh : inB ht 1 8
    · have HV := hide (vldPan_h (wd := wd) (xs := xs) hh)
      go_enter Try.func154, Try.ntmps154
      go_wp2_with fail
      go_quiet ((first | (go_at_call 165; exact quiet1 (l02Side_any _ _)) | fail))
      go_wp2_with fail
      go_ret
      rw [HV.out]
      exact ⟨rfl, _, rfl⟩
    · by_cases hl : (xs.length : Int) = innerN wd ht
      · have hne : ((xs.length : Int) != innerN wd ht) = false := by rw [bne_eq_false_iff_eq]; exact hl
        have HV := hide (vldPan_all hw hh hl)
        clear hl
        go_enter Try.func154, Try.ntmps154
        go_wp2_with fail
        go_quiet ((first | (go_at_call 165; exact quiet1 (l02Side_any _ _)) | (go_at_call 129; exact quiet1 (l02Inner_any _ _ _ hw hh)) | fail))
        go_wp2_with fail
        clear hw hh
        go_loopw [3] (fun i wr => ∃ (k n : Nat), k ≤ xs.length ∧ i = .int .i64 k ∧ Hid ((xs.take k).all breakB = true) ∧ wr = w.drewN n) (fun i _ => xs.length - (intOf i).toNat)
        case atStart => exact ⟨0, _, Nat.zero_le _, rfl, hide (by simp), rfl⟩
        case round =>
          obtain ⟨k, n, hk, rfl, hall, rfl⟩ := hrel
          by_cases hlt : k < xs.length
          · obtain ⟨b, off, x, rfl, hb, hx, hc⟩ := h.at_ hlt
            cases hcx : inB x 0 2
            · have HF := hide (HV.out.trans (all_bad (p := breakB) hx hcx))
              clear hall hx
              go_wp2_with (go_at_call 65; refine (l00In_any _ _ _ _).mono ?_; rintro e w' ⟨rfl, rfl⟩)
              go_ret
              rw [HF.out]
              exact ⟨rfl, _, rfl⟩
            · have HA := hide (all_next (p := breakB) hx hall.out hcx)
              clear hall hx
              go_wp2_with (go_at_call 65; refine (l00In_any _ _ _ _).mono ?_; rintro e w' ⟨rfl, rfl⟩)
              go_roundw
              case rel => exact ⟨k + 1, n, by omega, by go_num, HA, rfl⟩
              case measure => simp [intOf]; omega
          · have hall' := hall.out
            rw [List.take_of_length_le (by omega)] at hall'
            have HF := hide (HV.out.trans hall')
            clear hall hall'
            go_wp2_with fail
            go_ret
            rw [HF.out]
            exact ⟨rfl, _, rfl⟩
      · have hne : ((xs.length : Int) != innerN wd ht) = true := by rw [bne_iff_ne]; exact hl
        have HV := hide (vldPan_n hl)
        go_enter Try.func154, Try.ntmps154
        go_wp2_with fail
        go_quiet ((first | (go_at_call 165; exact quiet1 (l02Side_any _ _)) | (go_at_call 129; exact quiet1 (l02Inner_any _ _ _ hw hh)) | fail))
        go_wp2_with fail
        go_ret
        rw [HV.out]
        exact ⟨rfl, _, rfl⟩
set_option maxHeartbeats 4000000 in
theorem validPanel_any (wd ht : Int) (A : Option Addr) (c : Nat) (xs : List Int) (w : World) (h : RI w A xs) (hn : xs.length ≤ 1048576) :
    Calls Try.prog 67 #[.agg #[.int .i64 wd, .int .i64 ht, .slice A xs.length c]] w (RetV w (.bool (vldPan wd ht xs))) := by
  have hBn : ∀ n, Below w.heap.size w ((w.alloc (.cells #[.int .i64 wd, .int .i64 ht, .slice A xs.length c] 36)).drewN n) := fun n => below_drewN' ((Below.refl _ _).alloc (Nat.le_refl _) _) n
  cases hw : inB wd 1 8
  · have HV := hide (vldPan_w (ht := ht) (xs := xs) hw)
    go_enter Try.func67, Try.ntmps67
    go_wp2_with fail
    go_quiet ((first | (go_at_call 108; exact quiet1 (validSize_any _ _ _)) | fail))
    go_wp2_with fail
    go_ret
    rw [HV.out]
    exact ⟨rfl, hBn _⟩
  · cases hh : inB ht 1 8
    · have HV := hide (vldPan_h (wd := wd) (xs := xs) hh)
      go_enter Try.func67, Try.ntmps67
      go_wp2_with fail
      go_quiet ((first | (go_at_call 108; exact quiet1 (validSize_any _ _ _)) | fail))
      go_wp2_with fail
      go_ret
      rw [HV.out]
      exact ⟨rfl, hBn _⟩
    · by_cases hl : (xs.length : Int) = innerN wd ht
      · have hne : ((xs.length : Int) != innerN wd ht) = false := by rw [bne_eq_false_iff_eq]; exact hl
        have HV := hide (vldPan_all hw hh hl)
        clear hl
        go_enter Try.func67, Try.ntmps67
        go_wp2_with fail
        go_quiet ((first | (go_at_call 108; exact quiet1 (validSize_any _ _ _)) | (go_at_call 109; exact quiet1 (innerPoints_any _ _ _ hw hh)) | fail))
        go_wp2_with fail
        clear hw hh
        go_loopw [25] (fun i wr => ∃ (k : Nat), k ≤ xs.length ∧ i = .int .i64 k ∧ Hid ((xs.take k).all breakB = true) ∧ Below w.heap.size w wr) (fun i _ => xs.length - (intOf i).toNat)
        case atStart => exact ⟨0, Nat.zero_le _, rfl, hide (by simp), hBn _⟩
        case round =>
          obtain ⟨k, hk, rfl, hall, hB⟩ := hrel
          have hr := h.below hB
          by_cases hlt : k < xs.length
          · obtain ⟨b, off, x, rfl, hb, hx, hc⟩ := hr.at_ hlt
            cases hcx : inB x 0 2
            · have HF := hide (HV.out.trans (all_bad (p := breakB) hx hcx))
              clear hall hx
              go_wp2_with (go_at_call 110; refine (validBreak_any _ _).mono ?_; rintro e w' ⟨rfl, rfl⟩)
              go_ret
              rw [HF.out]
              exact ⟨rfl, hB⟩
            · have HA := hide (all_next (p := breakB) hx hall.out hcx)
              clear hall hx
              go_wp2_with (go_at_call 110; refine (validBreak_any _ _).mono ?_; rintro e w' ⟨rfl, rfl⟩)
              go_roundw
              case rel => exact ⟨k + 1, by omega, by go_num, HA, hB⟩
              case measure => simp [intOf]; omega
          · have hall' := hall.out
            rw [List.take_of_length_le (by omega)] at hall'
            have HF := hide (HV.out.trans hall')
            clear hall hall'
            go_wp2_with fail
            go_ret
            rw [HF.out]
            exact ⟨rfl, hB⟩
      · have hne : ((xs.length : Int) != innerN wd ht) = true := by rw [bne_iff_ne]; exact hl
        have HV := hide (vldPan_n hl)
        go_enter Try.func67, Try.ntmps67
        go_wp2_with fail
        go_quiet ((first | (go_at_call 108; exact quiet1 (validSize_any _ _ _)) | (go_at_call 109; exact quiet1 (innerPoints_any _ _ _ hw hh)) | fail))
        go_wp2_with fail
        go_ret
        rw [HV.out]
        exact ⟨rfl, hBn _⟩
end Go.Proofs.Ytnjojnnapdhijaa
