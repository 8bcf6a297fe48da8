/-
  Contracts: inner points by their numbers; smoothing. Conditions: a valid panel's sides and breaks.
-/
import Derived.Test.YtjlifbdaieblpaaGreatSm1
import Derived.Test.YtjlifbdaieblpaaGreatSm2
namespace Go.Proofs.YtjlifbdaieblpaaGreat
open Go.RowKit
set_option linter.unusedVariables false
set_option maxRecDepth 20000 in
set_option maxHeartbeats 8000000 in
theorem l02Point_any (b0 : Nat) (wd ht : Int) (A : Option Addr) (c : Nat) (xs : List Int) (k : Nat) (w : World) (hp : PA w b0 wd ht A c xs) (hs : Sz wd ht) (hk : (k : Int) < innerN wd ht) :
    Calls Tryz.prog 66 #[.pointer (some ⟨b0, 0, none⟩), .int .i64 (k : Int)] w (RetV w (.agg #[.int .i64 (pntX wd k), .int .i64 (pntY wd k)])) := by
  obtain ⟨-, -, -, ⟨hy1, hy2⟩, hx1, hx2⟩ := pnt_facts hs hk
  obtain ⟨hr1, hr2, hr3⟩ := pnt_row hs hk
  have hin : (k : Int) ≤ 200 := by
    obtain ⟨s1, s2, s3, s4⟩ := hs
    unfold innerN at hk
    rcases eight s1 s2 with rfl | rfl | rfl | rfl | rfl | rfl | rfl | rfl <;> omega
  obtain ⟨s1, s2, s3, s4⟩ := hs
  obtain ⟨Y, hY⟩ : ∃ Y : Nat, pntY wd k = (Y : Int) := ⟨(pntY wd k).toNat, by omega⟩
  obtain ⟨X, hX⟩ : ∃ X, X = pntX wd k := ⟨_, rfl⟩
  rw [← hX] at hx1 hx2 hr3
  rw [← hX, hY]
  rw [hY] at hy1 hy2 hr1 hr2 hr3
  have HR3 := hide hr3
  have HMON := hide (fun (y z : Int) (h1 : 1 ≤ y) (h2 : y ≤ z) (h3 : z ≤ 16) => row_mono (wd := wd) s1 s2 h1 h2 h3)
  have HRB := hide (fun (y : Int) (h1 : 1 ≤ y) (h2 : y ≤ 16) => row_bounds (wd := wd) s1 s2 h1 h2)
  have HR2 := hide hr2
  clear hX hY hr3 hk hr2
  have hpw := hp.below ((Below.refl w.heap.size w).alloc (by first | omega | (simp; omega) | simp) (.cells #[.int .i64 0, .int .i64 0] 77))
  have c0 := hpw.c0
  have c1 := hpw.c1
  have hr := (Bx.new_ w (w.heap.size) 77 #[.int .i64 0, .int .i64 0] (by simp))
  obtain ⟨ra_0, rb_0⟩ := hr.two
  have rf0 := hr.frozen 0
  have rf1 := hr.frozen 1
  have HROW : Hid (∀ (y : Int), 1 ≤ y → y ≤ 16 → Calls Tryz.prog 92 #[.pointer (some ⟨b0, 0, none⟩), .int .i64 y] (w.alloc (.cells #[.int .i64 0, .int .i64 0] 77)) fun e w' => e = .returned (.int .i64 (rowI wd y)) ∧ (w.alloc (.cells #[.int .i64 0, .int .i64 0] 77)) = w') := hide (fun y y1 y2 => l02Row_any b0 wd y _ c0 s1 s2 y1 y2)
  clear hr hpw
  go_enter Tryz.func66, Tryz.ntmps66
  go_wp2_with fail
  go_loop [5] (fun yv => ∃ (y : Nat), 1 ≤ y ∧ y ≤ Y ∧ yv = .int .i64 (y : Int)) (fun yv => Y + 1 - (intOf yv).toNat)
  case atStart => exact ⟨1, Nat.le_refl _, by omega, rfl⟩
  case round =>
    obtain ⟨y, y1, y2, rfl⟩ := hrel
    by_cases hlt : y < Y
    · have hm := HMON.out ((y : Int) + 1) (Y : Int) (by omega) (by omega) (by omega)
      have hb := HRB.out ((y : Int) + 1) (by omega) (by omega)
      have e1 : (y : Int) + 1 < 2 * ht := by omega
      have HC := hide (HROW.out ((y : Int) + 1) (by omega) (by omega))
      obtain ⟨R, hR⟩ : ∃ R, R = rowI wd ((y : Int) + 1) := ⟨_, rfl⟩
      rw [← hR] at hm hb HC
      have e2 : R ≤ (k : Int) := by omega
      have d2 : decide (R ≤ (k : Int)) = true := by simpa using e2
      clear hR HROW HMON HRB HR2 HR3 hx1 hx2 hr1 hm hb hp hin
      go_wp2_with (go_at_call 92; refine HC.out.mono ?_; rintro e w' ⟨rfl, rfl⟩)
      go_round
      case rel => exact ⟨y + 1, by omega, by omega, by go_num⟩
      case measure => simp [intOf]; omega
    · obtain rfl : Y = y := by omega
      have HC2 := hide (HROW.out (Y : Int) (by omega) (by omega))
      have hb2 := HRB.out (Y : Int) (by omega) (by omega)
      have HX := HR3
      obtain ⟨R2, hR2⟩ : ∃ R, R = rowI wd (Y : Int) := ⟨_, rfl⟩
      rw [← hR2] at HC2 hb2 HX hr1
      have t1 : Int.tmod (Y : Int) 2 = (Y : Int) % 2 := Int.tmod_eq_emod_of_nonneg (by omega)
      have HXV : Hid (2 * ((k : Int) - R2) + 1 + (Y : Int) % 2 = X) := hide (by rw [HX.out])
      have hmod : 0 ≤ (Y : Int) % 2 ∧ (Y : Int) % 2 ≤ 1 := by omega
      by_cases e1 : (Y : Int) + 1 < 2 * ht
      · have hb := HRB.out ((Y : Int) + 1) (by omega) (by omega)
        have HC := hide (HROW.out ((Y : Int) + 1) (by omega) (by omega))
        have hr2 := HR2.out
        obtain ⟨R, hR⟩ : ∃ R, R = rowI wd ((Y : Int) + 1) := ⟨_, rfl⟩
        rw [← hR] at hb HC hr2
        have e2 : ¬ R ≤ (k : Int) := by omega
        have d2 : decide (R ≤ (k : Int)) = false := by simpa using e2
        clear hR hR2 HROW HMON HRB HR2 HR3 HX hr2 hb hp
        go_upto_region 4 with (go_at_call 92; first | (refine HC.out.mono ?_; rintro e w' ⟨rfl, rfl⟩))
        have hq1 : -1000 ≤ (k : Int) - R2 ∧ (k : Int) - R2 ≤ 1000 := by omega
        go_wp2_with (go_at_call 92; first | (refine HC2.out.mono ?_; rintro e w' ⟨rfl, rfl⟩))
        refine bodyPost_ret (v := .agg #[.int .i64 (2 * ((k : Int) - R2) + 1 + (Y : Int) % 2), .int .i64 (Y : Int)]) (by simp [results, Tryz.results66, go_sem]) rfl ?_
        refine ⟨by rw [HXV.out], (Below.refl _ _).alloc (Nat.le_refl _) _⟩
      · clear hR2 HROW HMON HRB HR2 HR3 HX hp
        go_upto_region 4 with fail
        have hq1 : -1000 ≤ (k : Int) - R2 ∧ (k : Int) - R2 ≤ 1000 := by omega
        go_wp2_with (go_at_call 92; first | (refine HC2.out.mono ?_; rintro e w' ⟨rfl, rfl⟩))
        refine bodyPost_ret (v := .agg #[.int .i64 (2 * ((k : Int) - R2) + 1 + (Y : Int) % 2), .int .i64 (Y : Int)]) (by simp [results, Tryz.results66, go_sem]) rfl ?_
        refine ⟨by rw [HXV.out], (Below.refl _ _).alloc (Nat.le_refl _) _⟩
end Go.Proofs.YtjlifbdaieblpaaGreat
