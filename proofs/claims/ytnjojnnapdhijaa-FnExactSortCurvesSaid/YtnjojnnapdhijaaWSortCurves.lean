/-
  The core of the walk of the law FnExactSortCurves: the law answers true wherever the two functions hand back the same. Conditions: the two functions' contracts, given as hypotheses.
-/
import Derived.Test.YtnjojnnapdhijaaOpenC
import Derived.Test.YtnjojnnapdhijaaRet
namespace Go.Proofs.Ytnjojnnapdhijaa
open Go.RowKit
set_option linter.unusedVariables false

set_option maxHeartbeats 1000000 in
theorem walk_SortCurves_big0 (A0 : Option Addr) (c0 : Nat) (xs0 : List (List Int)) (w : World) (hx0 : ArgC w A0 c0 xs0)  (hno : 1048576 < (xs0.length + sumLen xs0)) :
    Calls Try.prog 6 #[.slice A0 xs0.length c0] w fun e w' => e = .returned (.bool true) ∧ Below w.heap.size w w' := by
  obtain ⟨hl0, hm0, hr0, hi0⟩ := hx0
  go_enter Try.func6, Try.ntmps6
  have k0 : (1048576 : Int) < (((xs0.length + sumLen xs0) : Nat) : Int) := by omega
  go_wp2_with fail
  refine (szInt64SS_no _ _ _ _ _ _ (hr0) (by omega) (by omega) k0 (by omega)).mono ?_
  rintro e w1 ⟨rfl, hb1⟩
  have r0_1 := (hr0).below hb1
  have z_1 : w.heap.size ≤ w1.heap.size := hb1.size
  have B_1 := (Below.refl w.heap.size w).trans (hb1.mono (by omega))
  go_wp2_with fail
  go_ret
  exact ⟨rfl, B_1⟩

set_option maxRecDepth 20000 in
set_option maxHeartbeats 4000000 in
theorem walk_SortCurves_core (A0 : Option Addr) (c0 : Nat) (xs0 : List (List Int)) (w : World) (hx0 : ArgC w A0 c0 xs0) (hsm : (xs0.length + sumLen xs0) ≤ 1048576) (X0 : List (List Int)) (v1 : Int) (hX0 : X0.length + sumLen X0 ≤ 1048576)
    (hspec0 : ∀ (W : World) (B0 : Option Addr) (d0 T0 : Nat), RC W T0 B0 xs0 → Calls Try.prog 28 #[.slice B0 xs0.length d0] W (RetCC W X0 v1))
    (himpl0 : ∀ (W : World) (B0 : Option Addr) (d0 T0 : Nat), RC W T0 B0 xs0 → Calls Try.prog 27 #[.slice B0 xs0.length d0] W (RetCC W X0 v1)) :
    Calls Try.prog 6 #[.slice A0 xs0.length c0] w fun e w' => e = .returned (.bool true) ∧ Below w.heap.size w w' := by
  obtain ⟨hl0, hm0, hr0, hi0⟩ := hx0
  have hspec := hide hspec0; have himpl := hide himpl0; clear hspec0 himpl0
  have hn0 : (xs0.length + sumLen xs0) ≤ 1048576 := by omega
  have hv1 : (v1 != v1) = false := by simp
  go_enter Try.func6, Try.ntmps6
  have k_0 : (((xs0.length + sumLen xs0) : Nat) : Int) ≤ 1048576 := by omega
  go_wp2_with fail
  refine (szInt64SS_ok _ _ _ _ _ _ (hr0) k_0 (by omega)).mono ?_
  rintro e w1 ⟨rfl, hb1⟩
  have r0_1 := (hr0).below hb1
  have z_1 : w.heap.size ≤ w1.heap.size := hb1.size
  have B_1 := (Below.refl w.heap.size w).trans (hb1.mono (by omega))
  have kk_0 : ¬ (1048576 - (((xs0.length + sumLen xs0) : Nat) : Int) < 0) := by omega
  go_wp2_with fail
  refine (toInt64SS_any _ _ xs0 _ _ (r0_1) hn0).mono ?_
  rintro e w2 ⟨E2, f2, rfl, t0_0_2, hb2⟩
  have r0_2 := (r0_1).below hb2
  have z_2 : w1.heap.size ≤ w2.heap.size := hb2.size
  have B_2 := (B_1).trans (hb2.mono (by omega))
  go_wp2_with fail
  refine (hspec.out _ _ _ _ ((t0_0_2).rd)).mono ?_
  rintro e w3 ⟨E3, f3, rfl, g1_3, hb3⟩
  have r0_3 := (r0_2).below hb3
  have t0_0_3 := (t0_0_2).below hb3
  have z_3 : w2.heap.size ≤ w3.heap.size := hb3.size
  have B_3 := (B_2).trans (hb3.mono (by omega))
  go_wp2_with fail
  refine (toInt64SS_any _ _ xs0 _ _ (r0_3) hn0).mono ?_
  rintro e w4 ⟨E4, f4, rfl, t0_2_4, hb4⟩
  have r0_4 := (r0_3).below hb4
  have t0_0_4 := (t0_0_3).below hb4
  have g1_4 := (g1_3).below hb4
  have z_4 : w3.heap.size ≤ w4.heap.size := hb4.size
  have B_4 := (B_3).trans (hb4.mono (by omega))
  go_wp2_with fail
  refine (himpl.out _ _ _ _ ((t0_2_4).rd)).mono ?_
  rintro e w5 ⟨E5, f5, rfl, g3_5, hb5⟩
  have r0_5 := (r0_4).below hb5
  have t0_0_5 := (t0_0_4).below hb5
  have g1_5 := (g1_4).below hb5
  have t0_2_5 := (t0_2_4).below hb5
  have z_5 : w4.heap.size ≤ w5.heap.size := hb5.size
  have B_5 := (B_4).trans (hb5.mono (by omega))
  go_wp2_with fail
  refine (eqInt64SS_any _ _ _ _ X0 X0 _ _ _ ((g3_5).rd) ((g1_5).rd) hX0 hX0).mono ?_
  rintro e w6 ⟨rfl, hb6⟩
  have r0_6 := (r0_5).below hb6
  have t0_0_6 := (t0_0_5).below hb6
  have g1_6 := (g1_5).below hb6
  have t0_2_6 := (t0_2_5).below hb6
  have g3_6 := (g3_5).below hb6
  have z_6 : w5.heap.size ≤ w6.heap.size := hb6.size
  have B_6 := (B_5).trans (hb6.mono (by omega))
  go_wp2_with fail
  refine (toInt64SS_any _ _ xs0 _ _ (r0_6) hn0).mono ?_
  rintro e w7 ⟨E7, f7, rfl, t0_4_7, hb7⟩
  have r0_7 := (r0_6).below hb7
  have t0_0_7 := (t0_0_6).below hb7
  have g1_7 := (g1_6).below hb7
  have t0_2_7 := (t0_2_6).below hb7
  have g3_7 := (g3_6).below hb7
  have z_7 : w6.heap.size ≤ w7.heap.size := hb7.size
  have B_7 := (B_6).trans (hb7.mono (by omega))
  go_wp2_with fail
  refine (eqInt64SS_any _ _ _ _ xs0 xs0 _ _ _ ((t0_2_7).rd) ((t0_4_7).rd) hn0 hn0).mono ?_
  rintro e w8 ⟨rfl, hb8⟩
  have r0_8 := (r0_7).below hb8
  have t0_0_8 := (t0_0_7).below hb8
  have g1_8 := (g1_7).below hb8
  have t0_2_8 := (t0_2_7).below hb8
  have g3_8 := (g3_7).below hb8
  have t0_4_8 := (t0_4_7).below hb8
  have z_8 : w7.heap.size ≤ w8.heap.size := hb8.size
  have B_8 := (B_7).trans (hb8.mono (by omega))
  go_wp2_with fail
  refine (markInt64SS_any _ _ _ _ xs0 _ _ (t0_2_8) hn0 (by omega) (by omega)).mono ?_
  rintro e w9 ⟨rfl, t0_2_9, hM9⟩
  have r0_9 := (r0_8).marked hM9 (by omega) (by omega)
  have t0_0_9 := (t0_0_8).marked hM9 (by omega) (by omega)
  have g1_9 := (g1_8).marked hM9 (by omega) (by omega)
  have g3_9 := (g3_8).marked hM9 (by omega) (by omega)
  have t0_4_9 := (t0_4_8).marked hM9 (by omega) (by omega)
  have z_9 : w8.heap.size ≤ w9.heap.size := hM9.size
  have B_9 := Below.marked (B_8) hM9 (by omega) (by omega)
  have hq6 : ¬ (1 + ((sumLen xs0 : Nat) : Int) < 0) := by omega
  go_wp2_with fail
  refine (eqInt64SS_any _ _ _ _ X0 X0 _ _ _ ((g3_9).rd) ((g1_9).rd) hX0 hX0).mono ?_
  rintro e w10 ⟨rfl, hb10⟩
  have r0_10 := (r0_9).below hb10
  have t0_0_10 := (t0_0_9).below hb10
  have g1_10 := (g1_9).below hb10
  have g3_10 := (g3_9).below hb10
  have t0_4_10 := (t0_4_9).below hb10
  have z_10 : w9.heap.size ≤ w10.heap.size := hb10.size
  have B_10 := (B_9).trans (hb10.mono (by omega))
  go_wp2_with fail
  refine (markInt64SS_any _ _ _ _ X0 _ _ (g3_10) hX0 (by omega) (by omega)).mono ?_
  rintro e w11 ⟨rfl, g3_11, hM11⟩
  have r0_11 := (r0_10).marked hM11 (by omega) (by omega)
  have t0_0_11 := (t0_0_10).marked hM11 (by omega) (by omega)
  have g1_11 := (g1_10).marked hM11 (by omega) (by omega)
  have t0_4_11 := (t0_4_10).marked hM11 (by omega) (by omega)
  have z_11 : w10.heap.size ≤ w11.heap.size := hM11.size
  have B_11 := Below.marked (B_10) hM11 (by omega) (by omega)
  go_wp2_with fail
  refine (heldInt64SS_any _ _ _ X0 _ _ ((g3_11).rd) hX0 (by omega) (by omega)).mono ?_
  rintro e w12 ⟨rfl, hb12⟩
  have r0_12 := (r0_11).below hb12
  have t0_0_12 := (t0_0_11).below hb12
  have g1_12 := (g1_11).below hb12
  have g3_12 := (g3_11).below hb12
  have t0_4_12 := (t0_4_11).below hb12
  have z_12 : w11.heap.size ≤ w12.heap.size := hb12.size
  have B_12 := (B_11).trans (hb12.mono (by omega))
  have hq7 : ¬ (1 + ((sumLen X0 : Nat) : Int) < 0) := by omega
  have hq8 : (1 + ((sumLen X0 : Nat) : Int) != 1 + ((sumLen X0 : Nat) : Int)) = false := by simp
  go_wp2_with fail
  refine (toInt64SS_any _ _ xs0 _ _ (r0_12) hn0).mono ?_
  rintro e w13 ⟨E13, f13, rfl, t0_8_13, hb13⟩
  have r0_13 := (r0_12).below hb13
  have t0_0_13 := (t0_0_12).below hb13
  have g1_13 := (g1_12).below hb13
  have g3_13 := (g3_12).below hb13
  have t0_4_13 := (t0_4_12).below hb13
  have z_13 : w12.heap.size ≤ w13.heap.size := hb13.size
  have B_13 := (B_12).trans (hb13.mono (by omega))
  go_wp2_with fail
  refine (himpl.out _ _ _ _ ((t0_8_13).rd)).mono ?_
  rintro e w14 ⟨E14, f14, rfl, g9_14, hb14⟩
  have r0_14 := (r0_13).below hb14
  have t0_0_14 := (t0_0_13).below hb14
  have g1_14 := (g1_13).below hb14
  have g3_14 := (g3_13).below hb14
  have t0_4_14 := (t0_4_13).below hb14
  have t0_8_14 := (t0_8_13).below hb14
  have z_14 : w13.heap.size ≤ w14.heap.size := hb14.size
  have B_14 := (B_13).trans (hb14.mono (by omega))
  go_wp2_with fail
  refine (eqInt64SS_any _ _ _ _ X0 X0 _ _ _ ((g9_14).rd) ((g1_14).rd) hX0 hX0).mono ?_
  rintro e w15 ⟨rfl, hb15⟩
  have r0_15 := (r0_14).below hb15
  have t0_0_15 := (t0_0_14).below hb15
  have g1_15 := (g1_14).below hb15
  have g3_15 := (g3_14).below hb15
  have t0_4_15 := (t0_4_14).below hb15
  have t0_8_15 := (t0_8_14).below hb15
  have g9_15 := (g9_14).below hb15
  have z_15 : w14.heap.size ≤ w15.heap.size := hb15.size
  have B_15 := (B_14).trans (hb15.mono (by omega))
  go_wp2_with fail
  refine (heldInt64SS_any _ _ _ X0 _ _ ((g3_15).rd) hX0 (by omega) (by omega)).mono ?_
  rintro e w16 ⟨rfl, hb16⟩
  have r0_16 := (r0_15).below hb16
  have t0_0_16 := (t0_0_15).below hb16
  have g1_16 := (g1_15).below hb16
  have g3_16 := (g3_15).below hb16
  have t0_4_16 := (t0_4_15).below hb16
  have t0_8_16 := (t0_8_15).below hb16
  have g9_16 := (g9_15).below hb16
  have z_16 : w15.heap.size ≤ w16.heap.size := hb16.size
  have B_16 := (B_15).trans (hb16.mono (by omega))
  have hq11 : ¬ (1 + ((sumLen X0 : Nat) : Int) < 0) := by omega
  have hq12 : (1 + ((sumLen X0 : Nat) : Int) != 1 + ((sumLen X0 : Nat) : Int)) = false := by simp
  go_wp2_with fail
  go_ret
  exact ⟨rfl, B_16⟩

theorem walk_SortCurves_of (A0 : Option Addr) (c0 : Nat) (xs0 : List (List Int)) (w : World) (hx0 : ArgC w A0 c0 xs0)
    (h : (xs0.length + sumLen xs0) ≤ 1048576 → ∃ (X0 : List (List Int)) (v1 : Int), X0.length + sumLen X0 ≤ 1048576 ∧ (∀ (W : World) (B0 : Option Addr) (d0 T0 : Nat), RC W T0 B0 xs0 → Calls Try.prog 28 #[.slice B0 xs0.length d0] W (RetCC W X0 v1)) ∧ (∀ (W : World) (B0 : Option Addr) (d0 T0 : Nat), RC W T0 B0 xs0 → Calls Try.prog 27 #[.slice B0 xs0.length d0] W (RetCC W X0 v1))) :
    Calls Try.prog 6 #[.slice A0 xs0.length c0] w fun e w' => e = .returned (.bool true) ∧ Below w.heap.size w w' := by
  by_cases hs : (xs0.length + sumLen xs0) ≤ 1048576
  · obtain ⟨X0, v1, hX0, h1, h2⟩ := h hs
    exact walk_SortCurves_core A0 c0 xs0 w hx0 hs X0 v1 hX0 h1 h2
  · exact walk_SortCurves_big0 A0 c0 xs0 w hx0 (by omega)

end Go.Proofs.Ytnjojnnapdhijaa
