/-
  Contracts: panels: the laws' helpers, and the two tests whether a panel is valid. Conditions: the lengths are far below the machine's.
-/
import Derived.Test.YtgdgjcpkelokiaaGen
import Derived.Test.YtgdgjcpkelokiaaPolyOk
namespace Go.Proofs.Ytgdgjcpkelokiaa
open Go.RowKit
set_option linter.unusedVariables false

theorem below_drewN' {B : Nat} {a b : World} (h : Below B a b) (n : Nat) : Below B a (b.drewN n) := ⟨h.os, h.tape, h.output, h.size, h.block⟩
theorem RetQ.v {P : Program} {f : FuncId} {args : Array Value} {w : World} {v : Value} (h : Calls P f args w (RetQ w v)) : Calls P f args w (RetV w v) :=
  h.mono fun _ _ ⟨he, n, hw⟩ => ⟨he, by rw [hw]; exact below_drewN' (Below.refl _ _) n⟩
/-- A function that hands back a panel with breaks of its own. -/
def RetPan (w : World) (wd ht : Int) (xs : List Int) (e : Ending) (w' : World) : Prop :=
  ∃ A c, e = .returned (.agg #[.int .i64 wd, .int .i64 ht, .slice A xs.length c]) ∧ OwnI w' w.heap.size A c xs ∧ Below w.heap.size w w'

theorem szPanel_ok (wd ht : Int) (A : Option Addr) (c n : Nat) (left : Int) (w : World) (h : (n : Int) ≤ left) (hl : left ≤ 1048576) :
    Calls Try.prog 6 #[.agg #[.int .i64 wd, .int .i64 ht, .slice A n c], .int .i64 left] w (RetV w (.int .i64 (left - n))) := by
  go_enter Try.func6, Try.ntmps6
  go_wp2_with (go_at_call 20; refine (szInt64S_ok _ _ _ _ _ h hl).mono ?_; rintro e w' ⟨rfl, rfl⟩)
  go_ret
  exact ⟨rfl, (Below.refl _ _).alloc (Nat.le_refl _) _⟩
theorem szPanel_no (wd ht : Int) (A : Option Addr) (c n : Nat) (left : Int) (w : World) (h0 : 0 ≤ left) (h : left < (n : Int)) (hl : n ≤ 9223372036854775807) :
    Calls Try.prog 6 #[.agg #[.int .i64 wd, .int .i64 ht, .slice A n c], .int .i64 left] w (RetV w (.int .i64 (-1))) := by
  go_enter Try.func6, Try.ntmps6
  go_wp2_with (go_at_call 20; refine (szInt64S_no _ _ _ _ _ h0 h hl).mono ?_; rintro e w' ⟨rfl, rfl⟩)
  go_ret
  exact ⟨rfl, (Below.refl _ _).alloc (Nat.le_refl _) _⟩

set_option maxHeartbeats 1000000 in
theorem toPanel_any (wd ht : Int) (A : Option Addr) (c : Nat) (xs : List Int) (w : World) (h : RI w A xs) (hn : xs.length ≤ 1048576) :
    Calls Try.prog 8 #[.agg #[.int .i64 wd, .int .i64 ht, .slice A xs.length c]] w (RetPan w wd ht xs) := by
  go_enter Try.func8, Try.ntmps8
  go_wp2_with (go_at_call 26; refine (toInt64S_any _ _ xs _ (((h.alloc _).alloc _).alloc _) hn).mono ?_; rintro e w' ⟨A', c', rfl, hown, hb⟩; obtain ⟨hc, hf⟩ := bcell hb; have hz := hb.size; simp only [World.size_alloc] at hz)
  refine bodyPost_ret (v := .agg #[.int .i64 wd, .int .i64 ht, .slice A' xs.length c']) (by simp [results, Try.results8, go_sem, hc]) rfl ⟨A', c', rfl, ?_, ?_⟩
  · exact ((((hown.setLow (by simp) _).setLow (by simp) _).setLow (by simp) _).setLow (by simp) _).mono (by simp; omega)
  · exact ((((((((Below.refl _ _).alloc (Nat.le_refl _) _).alloc (by simp) _).alloc (by simp; omega) _).trans (hb.mono (by simp; omega))).setCell (by simp; omega) _).setCell (by simp) _).setCell (by simp) _).setCell (by simp) _

set_option maxHeartbeats 1000000 in
theorem eqPanel_any (w1 h1 w2 h2 : Int) (A B : Option Addr) (c d : Nat) (xs ys : List Int) (w : World) (hA : RI w A xs) (hB : RI w B ys) (hn : xs.length ≤ 1048576) (hm : ys.length ≤ 1048576) :
    Calls Try.prog 10 #[.agg #[.int .i64 w1, .int .i64 h1, .slice A xs.length c], .agg #[.int .i64 w2, .int .i64 h2, .slice B ys.length d]] w (RetV w (.bool (decide (w1 = w2 ∧ h1 = h2 ∧ xs = ys)))) := by
  have hBB : ∀ o1 o2, Below w.heap.size w ((w.alloc o1).alloc o2) := fun o1 o2 => ((Below.refl _ _).alloc (Nat.le_refl _) _).alloc (by simp) _
  by_cases hw : w1 = w2
  · by_cases hh : h1 = h2
    · subst hw hh
      have hne : (w1 != w1) = false := by simp
      have hne2 : (h1 != h1) = false := by simp
      have HB := hide (show decide (w1 = w1 ∧ h1 = h1 ∧ xs = ys) = decide (xs = ys) by simp)
      cases hd : decide (xs = ys)
      all_goals
        go_enter Try.func10, Try.ntmps10
        go_wp2_with (go_at_call 30; refine (eqInt64S_any _ _ _ _ xs ys _ ((hA.alloc _).alloc _) ((hB.alloc _).alloc _) hn hm).mono ?_; rintro e w' ⟨rfl, n, rfl⟩)
        go_ret
        rw [HB.out, hd]
        exact ⟨rfl, below_drewN' (hBB _ _) _⟩
    · have hne : (w1 != w2) = false := by simp [hw]
      have hne2 : (h1 != h2) = true := by simpa using hh
      have HB := hide (show decide (w1 = w2 ∧ h1 = h2 ∧ xs = ys) = false by simp [hh])
      clear hw
      go_enter Try.func10, Try.ntmps10
      go_wp2_with fail
      go_ret
      rw [HB.out]
      exact ⟨rfl, hBB _ _⟩
  · have hne : (w1 != w2) = true := by simpa using hw
    have HB := hide (show decide (w1 = w2 ∧ h1 = h2 ∧ xs = ys) = false by simp [hw])
    go_enter Try.func10, Try.ntmps10
    go_wp2_with fail
    go_ret
    rw [HB.out]
    exact ⟨rfl, hBB _ _⟩
theorem markPanel_any (wd ht : Int) (A : Option Addr) (c base : Nat) (xs : List Int) (k0 : Int) (w : World) (h : OwnI w base A c xs) (hn : xs.length ≤ 1048576) (h0 : 0 ≤ k0) (h1 : k0 ≤ 4294967296) :
    Calls Try.prog 11 #[.agg #[.int .i64 wd, .int .i64 ht, .slice A xs.length c], .int .i64 k0] w fun e w' => e = .returned (.int .i64 (k0 + xs.length)) ∧ OwnI w' base A c (marks k0 xs.length) ∧ ∃ wm, wm = w.alloc (.cells #[.int .i64 wd, .int .i64 ht, .slice A xs.length c] 26) ∧ wm.grownBy w' (blk A) := by
  go_enter Try.func11, Try.ntmps11
  go_wp2_with (go_at_call 31; refine (markInt64S_any A c base xs k0 _ (h.alloc _) hn h0 h1).mono ?_; rintro e w' ⟨rfl, ho, hg⟩)
  go_ret
  exact ⟨rfl, ho, _, rfl, hg⟩

/-- the number of the inner points -/
def innerN (wd ht : Int) : Int := wd * (ht - 1) + ht * (wd - 1)
theorem mul_small {a b : Int} (a0 : 0 ≤ a) (a1 : a ≤ 8) (b0 : 0 ≤ b) (b1 : b ≤ 8) : 0 ≤ a * b ∧ a * b ≤ 64 := by
  refine ⟨Int.mul_nonneg a0 b0, ?_⟩
  have h1 : a * b ≤ 8 * b := Int.mul_le_mul_of_nonneg_right a1 b0
  omega
theorem l02Inner_any (wd ht : Int) (w : World) (hw : inB wd 1 8 = true) (hh : inB ht 1 8 = true) : Calls Try.prog 62 #[.int .i64 wd, .int .i64 ht] w fun e w' => e = .returned (.int .i64 (innerN wd ht)) ∧ w = w' := by
  obtain ⟨a1, a2⟩ := inB_true.1 hw
  obtain ⟨b1, b2⟩ := inB_true.1 hh
  obtain ⟨m1, m2⟩ := mul_small (a := wd) (b := ht - 1) (by omega) (by omega) (by omega) (by omega)
  obtain ⟨m3, m4⟩ := mul_small (a := ht) (b := wd - 1) (by omega) (by omega) (by omega) (by omega)
  go_enter Try.func62, Try.ntmps62
  go_wp2
  go_ret
  exact ⟨rfl, rfl⟩
theorem innerPoints_any (wd ht : Int) (w : World) (hw : inB wd 1 8 = true) (hh : inB ht 1 8 = true) : Calls Try.prog 64 #[.int .i64 wd, .int .i64 ht] w fun e w' => e = .returned (.int .i64 (innerN wd ht)) ∧ w = w' := by
  obtain ⟨a1, a2⟩ := inB_true.1 hw
  obtain ⟨b1, b2⟩ := inB_true.1 hh
  obtain ⟨m1, m2⟩ := mul_small (a := wd) (b := ht - 1) (by omega) (by omega) (by omega) (by omega)
  obtain ⟨m3, m4⟩ := mul_small (a := ht) (b := wd - 1) (by omega) (by omega) (by omega) (by omega)
  go_enter Try.func64, Try.ntmps64
  go_wp2
  go_ret
  exact ⟨rfl, rfl⟩
theorem l02Side_any (x : Int) (w : World) : Calls Try.prog 61 #[.int .i64 x] w fun e w' => e = .returned (.bool (inB x 1 8)) ∧ w = w' := by
  go_enter Try.func61, Try.ntmps61
  go_wp2_with (go_at_call 44; refine (l00In_any _ _ _ _).mono ?_; rintro e w' ⟨rfl, rfl⟩)
  go_ret
  exact ⟨rfl, rfl⟩
theorem validBreak_any (x : Int) (w : World) : Calls Try.prog 65 #[.int .i64 x] w fun e w' => e = .returned (.bool (inB x 0 2)) ∧ w = w' := by
  go_enter Try.func65, Try.ntmps65
  go_wp2_with (go_at_call 66; refine (inRange_any _ _ _ _).mono ?_; rintro e w' ⟨rfl, rfl⟩)
  go_ret
  exact ⟨rfl, rfl⟩
theorem validSize_any (x y : Int) (w : World) : Calls Try.prog 63 #[.int .i64 x, .int .i64 y] w fun e w' => e = .returned (.bool (inB x 1 8 && inB y 1 8)) ∧ w = w' := by
  cases hx : inB x 1 8
  · go_enter Try.func63, Try.ntmps63
    go_wp2_with (go_at_call 66; refine (inRange_any _ _ _ _).mono ?_; rintro e w' ⟨rfl, rfl⟩)
    go_ret
    exact ⟨rfl, rfl⟩
  · go_enter Try.func63, Try.ntmps63
    go_wp2_with (go_at_call 66; refine (inRange_any _ _ _ _).mono ?_; rintro e w' ⟨rfl, rfl⟩)
    go_ret
    exact ⟨by simp, rfl⟩

def breakB (x : Int) : Bool := inB x 0 2
/-- is a panel valid? -/
def vldPan (wd ht : Int) (xs : List Int) : Bool := inB wd 1 8 && (inB ht 1 8 && (decide ((xs.length : Int) = innerN wd ht) && xs.all breakB))
theorem vldPan_w {wd ht : Int} {xs : List Int} (h : inB wd 1 8 = false) : vldPan wd ht xs = false := by unfold vldPan; rw [h]; rfl
theorem vldPan_h {wd ht : Int} {xs : List Int} (h : inB ht 1 8 = false) : vldPan wd ht xs = false := by unfold vldPan; rw [h]; simp
theorem vldPan_n {wd ht : Int} {xs : List Int} (h : (xs.length : Int) ≠ innerN wd ht) : vldPan wd ht xs = false := by unfold vldPan; rw [decide_eq_false h]; simp
theorem vldPan_all {wd ht : Int} {xs : List Int} (h1 : inB wd 1 8 = true) (h2 : inB ht 1 8 = true) (h3 : (xs.length : Int) = innerN wd ht) : vldPan wd ht xs = xs.all breakB := by unfold vldPan; rw [h1, h2, decide_eq_true h3]; simp
theorem vldPan_true {wd ht : Int} {xs : List Int} (h : vldPan wd ht xs = true) : inB wd 1 8 = true ∧ inB ht 1 8 = true ∧ (xs.length : Int) = innerN wd ht ∧ xs.all breakB = true := by
  unfold vldPan at h
  rw [Bool.and_eq_true, Bool.and_eq_true, Bool.and_eq_true, decide_eq_true_eq] at h
  exact h

set_option maxHeartbeats 4000000 in
theorem l02Ok_any (b0 : Nat) (wd ht : Int) (A : Option Addr) (c : Nat) (xs : List Int) (w : World) (c0 : w.cell? ⟨b0, 0, none⟩ = some (.int .i64 wd)) (c1 : w.cell? ⟨b0, 1, none⟩ = some (.int .i64 ht)) (c2 : w.cell? ⟨b0, 2, none⟩ = some (.slice A xs.length c))
    (h : RI w A xs) (hn : xs.length ≤ 1048576) :
    Calls Try.prog 43 #[.pointer (some ⟨b0, 0, none⟩)] w (RetQ w (.bool (vldPan wd ht xs))) := by
  cases hw : inB wd 1 8
  · have HV := hide (vldPan_w (ht := ht) (xs := xs) hw)
    go_enter Try.func43, Try.ntmps43
    go_wp2_with fail
    go_quiet ((first | (go_at_call 61; exact quiet1 (l02Side_any _ _)) | fail))
    go_wp2_with fail
    go_ret
    rw [HV.out]
    exact ⟨rfl, _, rfl⟩
  · cases hh : inB ht 1 8
    · have HV := hide (vldPan_h (wd := wd) (xs := xs) hh)
      go_enter Try.func43, Try.ntmps43
      go_wp2_with fail
      go_quiet ((first | (go_at_call 61; exact quiet1 (l02Side_any _ _)) | fail))
      go_wp2_with fail
      go_ret
      rw [HV.out]
      exact ⟨rfl, _, rfl⟩
    · by_cases hl : (xs.length : Int) = innerN wd ht
      · have hne : ((xs.length : Int) != innerN wd ht) = false := by rw [bne_eq_false_iff_eq]; exact hl
        have HV := hide (vldPan_all hw hh hl)
        clear hl
        go_enter Try.func43, Try.ntmps43
        go_wp2_with fail
        go_quiet ((first | (go_at_call 61; exact quiet1 (l02Side_any _ _)) | (go_at_call 62; exact quiet1 (l02Inner_any _ _ _ hw hh)) | fail))
        go_wp2_with fail
        clear hw hh
        go_loopw [3] (fun i wr => ∃ (k n : Nat), k ≤ xs.length ∧ i = .int .i64 k ∧ Hid ((xs.take k).all breakB = true) ∧ wr = w.drewN n) (fun i _ => xs.length - (intOf i).toNat)
        case atStart => exact ⟨0, _, Nat.zero_le _, rfl, hide (by simp), rfl⟩
        case round =>
          obtain ⟨k, n, hk, rfl, hall, rfl⟩ := hrel
          by_cases hlt : k < xs.length
          · obtain ⟨b, off, x, rfl, hb, hx, hc⟩ := h.at_ hlt
            cases hcx : inB x 0 2
            · have HF := hide (HV.out.trans (all_bad (p := breakB) hx hcx))
              clear hall hx
              go_wp2_with (go_at_call 44; refine (l00In_any _ _ _ _).mono ?_; rintro e w' ⟨rfl, rfl⟩)
              go_ret
              rw [HF.out]
              exact ⟨rfl, _, rfl⟩
            · have HA := hide (all_next (p := breakB) hx hall.out hcx)
              clear hall hx
              go_wp2_with (go_at_call 44; refine (l00In_any _ _ _ _).mono ?_; rintro e w' ⟨rfl, rfl⟩)
              go_roundw
              case rel => exact ⟨k + 1, n, by omega, by go_num, HA, rfl⟩
              case measure => simp [intOf]; omega
          · have hall' := hall.out
            rw [List.take_of_length_le (by omega)] at hall'
            have HF := hide (HV.out.trans hall')
            clear hall hall'
            go_wp2_with fail
            go_ret
            rw [HF.out]
            exact ⟨rfl, _, rfl⟩
      · have hne : ((xs.length : Int) != innerN wd ht) = true := by rw [bne_iff_ne]; exact hl
        have HV := hide (vldPan_n hl)
        go_enter Try.func43, Try.ntmps43
        go_wp2_with fail
        go_quiet ((first | (go_at_call 61; exact quiet1 (l02Side_any _ _)) | (go_at_call 62; exact quiet1 (l02Inner_any _ _ _ hw hh)) | fail))
        go_wp2_with fail
        go_ret
        rw [HV.out]
        exact ⟨rfl, _, rfl⟩
set_option maxHeartbeats 4000000 in
theorem validPanel_any (wd ht : Int) (A : Option Addr) (c : Nat) (xs : List Int) (w : World) (h : RI w A xs) (hn : xs.length ≤ 1048576) :
    Calls Try.prog 47 #[.agg #[.int .i64 wd, .int .i64 ht, .slice A xs.length c]] w (RetV w (.bool (vldPan wd ht xs))) := by
  have hBn : ∀ n, Below w.heap.size w ((w.alloc (.cells #[.int .i64 wd, .int .i64 ht, .slice A xs.length c] 26)).drewN n) := fun n => below_drewN' ((Below.refl _ _).alloc (Nat.le_refl _) _) n
  cases hw : inB wd 1 8
  · have HV := hide (vldPan_w (ht := ht) (xs := xs) hw)
    go_enter Try.func47, Try.ntmps47
    go_wp2_with fail
    go_quiet ((first | (go_at_call 63; exact quiet1 (validSize_any _ _ _)) | fail))
    go_wp2_with fail
    go_ret
    rw [HV.out]
    exact ⟨rfl, hBn _⟩
  · cases hh : inB ht 1 8
    · have HV := hide (vldPan_h (wd := wd) (xs := xs) hh)
      go_enter Try.func47, Try.ntmps47
      go_wp2_with fail
      go_quiet ((first | (go_at_call 63; exact quiet1 (validSize_any _ _ _)) | fail))
      go_wp2_with fail
      go_ret
      rw [HV.out]
      exact ⟨rfl, hBn _⟩
    · by_cases hl : (xs.length : Int) = innerN wd ht
      · have hne : ((xs.length : Int) != innerN wd ht) = false := by rw [bne_eq_false_iff_eq]; exact hl
        have HV := hide (vldPan_all hw hh hl)
        clear hl
        go_enter Try.func47, Try.ntmps47
        go_wp2_with fail
        go_quiet ((first | (go_at_call 63; exact quiet1 (validSize_any _ _ _)) | (go_at_call 64; exact quiet1 (innerPoints_any _ _ _ hw hh)) | fail))
        go_wp2_with fail
        clear hw hh
        go_loopw [25] (fun i wr => ∃ (k : Nat), k ≤ xs.length ∧ i = .int .i64 k ∧ Hid ((xs.take k).all breakB = true) ∧ Below w.heap.size w wr) (fun i _ => xs.length - (intOf i).toNat)
        case atStart => exact ⟨0, Nat.zero_le _, rfl, hide (by simp), hBn _⟩
        case round =>
          obtain ⟨k, hk, rfl, hall, hB⟩ := hrel
          have hr := h.below hB
          by_cases hlt : k < xs.length
          · obtain ⟨b, off, x, rfl, hb, hx, hc⟩ := hr.at_ hlt
            cases hcx : inB x 0 2
            · have HF := hide (HV.out.trans (all_bad (p := breakB) hx hcx))
              clear hall hx
              go_wp2_with (go_at_call 65; refine (validBreak_any _ _).mono ?_; rintro e w' ⟨rfl, rfl⟩)
              go_ret
              rw [HF.out]
              exact ⟨rfl, hB⟩
            · have HA := hide (all_next (p := breakB) hx hall.out hcx)
              clear hall hx
              go_wp2_with (go_at_call 65; refine (validBreak_any _ _).mono ?_; rintro e w' ⟨rfl, rfl⟩)
              go_roundw
              case rel => exact ⟨k + 1, by omega, by go_num, HA, hB⟩
              case measure => simp [intOf]; omega
          · have hall' := hall.out
            rw [List.take_of_length_le (by omega)] at hall'
            have HF := hide (HV.out.trans hall')
            clear hall hall'
            go_wp2_with fail
            go_ret
            rw [HF.out]
            exact ⟨rfl, hB⟩
      · have hne : ((xs.length : Int) != innerN wd ht) = true := by rw [bne_iff_ne]; exact hl
        have HV := hide (vldPan_n hl)
        go_enter Try.func47, Try.ntmps47
        go_wp2_with fail
        go_quiet ((first | (go_at_call 63; exact quiet1 (validSize_any _ _ _)) | (go_at_call 64; exact quiet1 (innerPoints_any _ _ _ hw hh)) | fail))
        go_wp2_with fail
        go_ret
        rw [HV.out]
        exact ⟨rfl, hBn _⟩
end Go.Proofs.Ytgdgjcpkelokiaa
