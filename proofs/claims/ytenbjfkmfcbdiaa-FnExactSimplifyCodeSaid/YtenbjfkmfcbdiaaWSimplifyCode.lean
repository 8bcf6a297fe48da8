/-
  The core of the walk of the law FnExactSimplifyCode: the law answers true wherever the two functions hand back the same. Conditions: the two functions' contracts, given as hypotheses.
-/
import Derived.Test.YtenbjfkmfcbdiaaOpenC
import Derived.Test.YtenbjfkmfcbdiaaRet
import Derived.Test.YtenbjfkmfcbdiaaMoveMark
import Derived.Test.YtenbjfkmfcbdiaaSimp
namespace Go.Proofs.Ytenbjfkmfcbdiaa
open Go.RowKit
set_option linter.unusedVariables false

set_option maxHeartbeats 1000000 in
theorem walk_SimplifyCode_big0 (A0 : Option Addr) (c0 : Nat) (xs0 : List (List Int)) (w : World) (hx0 : ArgC w A0 c0 xs0)  (hno : 1048576 < (xs0.length + sumLen xs0)) :
    Calls Try.prog 11 #[.slice A0 xs0.length c0] w fun e w' => e = .returned (.bool true) ∧ Below w.heap.size w w' := by
  obtain ⟨hl0, hm0, hr0, hi0⟩ := hx0
  go_enter Try.func11, Try.ntmps11
  have k0 : (1048576 : Int) < (((xs0.length + sumLen xs0) : Nat) : Int) := by omega
  go_wp2_with fail
  refine (szInt64SS_no _ _ _ _ _ _ (hr0) (by omega) (by omega) k0 (by omega)).mono ?_
  rintro e w1 ⟨rfl, hb1⟩
  have r0_1 := (hr0).below hb1
  have z_1 : w.heap.size ≤ w1.heap.size := hb1.size
  have B_1 := (Below.refl w.heap.size w).trans (hb1.mono (by omega))
  go_wp2_with fail
  go_ret
  exact ⟨rfl, B_1⟩

set_option maxRecDepth 20000 in
set_option maxHeartbeats 4000000 in
theorem walk_SimplifyCode_core (A0 : Option Addr) (c0 : Nat) (xs0 : List (List Int)) (w : World) (hx0 : ArgC w A0 c0 xs0) (hsm : (xs0.length + sumLen xs0) ≤ 1048576) (X0 : List (List Int)) (X1 : List (Int × Int × Int)) (v2 : Int) (hX0 : X0.length + sumLen X0 ≤ 1048576) (hX1 : X1.length ≤ 1048576)
    (hspec0 : ∀ (W : World) (B0 : Option Addr) (d0 T0 : Nat), RC W T0 B0 xs0 → Calls Try.prog 43 #[.slice B0 xs0.length d0] W (RetCMI2 W X0 X1 v2))
    (himpl0 : ∀ (W : World) (B0 : Option Addr) (d0 T0 : Nat), RC W T0 B0 xs0 → Calls Try.prog 44 #[.slice B0 xs0.length d0] W (RetCMI2 W X0 X1 v2)) :
    Calls Try.prog 11 #[.slice A0 xs0.length c0] w fun e w' => e = .returned (.bool true) ∧ Below w.heap.size w w' := by
  obtain ⟨hl0, hm0, hr0, hi0⟩ := hx0
  have hspec := hide hspec0; have himpl := hide himpl0; clear hspec0 himpl0
  have hn0 : (xs0.length + sumLen xs0) ≤ 1048576 := by omega
  have hv2 : (v2 != v2) = false := by simp
  go_enter Try.func11, Try.ntmps11
  have k_0 : (((xs0.length + sumLen xs0) : Nat) : Int) ≤ 1048576 := by omega
  go_wp2_with fail
  refine (szInt64SS_ok _ _ _ _ _ _ (hr0) k_0 (by omega)).mono ?_
  rintro e w1 ⟨rfl, hb1⟩
  have r0_1 := (hr0).below hb1
  have z_1 : w.heap.size ≤ w1.heap.size := hb1.size
  have B_1 := (Below.refl w.heap.size w).trans (hb1.mono (by omega))
  have kk_0 : ¬ (1048576 - (((xs0.length + sumLen xs0) : Nat) : Int) < 0) := by omega
  go_wp2_with fail
  refine (toInt64SS_any _ _ xs0 _ _ (r0_1) hn0).mono ?_
  rintro e w2 ⟨E2, f2, rfl, t0_0_2, hb2⟩
  have r0_2 := (r0_1).below hb2
  have z_2 : w1.heap.size ≤ w2.heap.size := hb2.size
  have B_2 := (B_1).trans (hb2.mono (by omega))
  go_wp2_with fail
  refine (hspec.out _ _ _ _ ((t0_0_2).rd)).mono ?_
  rintro e w3 ⟨E3, f3, EE3, ff3, L3, H3, rfl, hL3, hH3, g1_3, gg1_3, out3, hb3⟩
  have r0_3 := (r0_2).below hb3
  have t0_0_3 := (t0_0_2).below hb3
  have z_3 : w2.heap.size ≤ w3.heap.size := hb3.size
  have B_3 := (B_2).trans (hb3.mono (by omega))
  have ge_gg1 := fun g hg => (gg1_3).ge (g := g) hg
  go_wp2_with fail
  refine (toInt64SS_any _ _ xs0 _ _ (r0_3) hn0).mono ?_
  rintro e w4 ⟨E4, f4, rfl, t0_2_4, hb4⟩
  have r0_4 := (r0_3).below hb4
  have t0_0_4 := (t0_0_3).below hb4
  have g1_4 := (g1_3).below hb4
  have gg1_4 := (gg1_3).below hb4
  have z_4 : w3.heap.size ≤ w4.heap.size := hb4.size
  have B_4 := (B_3).trans (hb4.mono (by omega))
  go_wp2_with fail
  refine (himpl.out _ _ _ _ ((t0_2_4).rd)).mono ?_
  rintro e w5 ⟨E5, f5, EE5, ff5, L5, H5, rfl, hL5, hH5, g3_5, gg3_5, out5, hb5⟩
  have r0_5 := (r0_4).below hb5
  have t0_0_5 := (t0_0_4).below hb5
  have g1_5 := (g1_4).below hb5
  have gg1_5 := (gg1_4).below hb5
  have t0_2_5 := (t0_2_4).below hb5
  have z_5 : w4.heap.size ≤ w5.heap.size := hb5.size
  have B_5 := (B_4).trans (hb5.mono (by omega))
  have ge_gg3 := fun g hg => (gg3_5).ge (g := g) hg
  go_wp2_with fail
  refine (eqInt64SS_any _ _ _ _ X0 X0 _ _ _ ((g3_5).rd) ((g1_5).rd) hX0 hX0).mono ?_
  rintro e w6 ⟨rfl, hb6⟩
  have r0_6 := (r0_5).below hb6
  have t0_0_6 := (t0_0_5).below hb6
  have g1_6 := (g1_5).below hb6
  have gg1_6 := (gg1_5).below hb6
  have t0_2_6 := (t0_2_5).below hb6
  have g3_6 := (g3_5).below hb6
  have gg3_6 := (gg3_5).below hb6
  have z_6 : w5.heap.size ≤ w6.heap.size := hb6.size
  have B_6 := (B_5).trans (hb6.mono (by omega))
  go_wp2_with fail
  refine (eqMoveS_any _ _ _ _ X1 X1 _ ((gg3_6).rd) ((gg1_6).rd) hX1 hX1).mono ?_
  rintro e w7 ⟨rfl, hb7⟩
  have r0_7 := (r0_6).below hb7
  have t0_0_7 := (t0_0_6).below hb7
  have g1_7 := (g1_6).below hb7
  have gg1_7 := (gg1_6).below hb7
  have t0_2_7 := (t0_2_6).below hb7
  have g3_7 := (g3_6).below hb7
  have gg3_7 := (gg3_6).below hb7
  have z_7 : w6.heap.size ≤ w7.heap.size := hb7.size
  have B_7 := (B_6).trans (hb7.mono (by omega))
  go_wp2_with fail
  refine (toInt64SS_any _ _ xs0 _ _ (r0_7) hn0).mono ?_
  rintro e w8 ⟨E8, f8, rfl, t0_4_8, hb8⟩
  have r0_8 := (r0_7).below hb8
  have t0_0_8 := (t0_0_7).below hb8
  have g1_8 := (g1_7).below hb8
  have gg1_8 := (gg1_7).below hb8
  have t0_2_8 := (t0_2_7).below hb8
  have g3_8 := (g3_7).below hb8
  have gg3_8 := (gg3_7).below hb8
  have z_8 : w7.heap.size ≤ w8.heap.size := hb8.size
  have B_8 := (B_7).trans (hb8.mono (by omega))
  go_wp2_with fail
  refine (eqInt64SS_any _ _ _ _ xs0 xs0 _ _ _ ((t0_2_8).rd) ((t0_4_8).rd) hn0 hn0).mono ?_
  rintro e w9 ⟨rfl, hb9⟩
  have r0_9 := (r0_8).below hb9
  have t0_0_9 := (t0_0_8).below hb9
  have g1_9 := (g1_8).below hb9
  have gg1_9 := (gg1_8).below hb9
  have t0_2_9 := (t0_2_8).below hb9
  have g3_9 := (g3_8).below hb9
  have gg3_9 := (gg3_8).below hb9
  have t0_4_9 := (t0_4_8).below hb9
  have z_9 : w8.heap.size ≤ w9.heap.size := hb9.size
  have B_9 := (B_8).trans (hb9.mono (by omega))
  go_wp2_with fail
  refine (markInt64SS_any _ _ _ _ xs0 _ _ (t0_2_9) hn0 (by omega) (by omega)).mono ?_
  rintro e w10 ⟨rfl, t0_2_10, hM10⟩
  have r0_10 := (r0_9).marked hM10 (by omega) (by omega)
  have t0_0_10 := (t0_0_9).marked hM10 (by omega) (by omega)
  have g1_10 := (g1_9).marked hM10 (by omega) (by omega)
  have gg1_10 := (gg1_9).marked hM10 (fun g hg => by have := ge_gg1 g hg; omega)
  have g3_10 := (g3_9).marked hM10 (by omega) (by omega)
  have gg3_10 := (gg3_9).marked hM10 (fun g hg => by have := ge_gg3 g hg; omega)
  have t0_4_10 := (t0_4_9).marked hM10 (by omega) (by omega)
  have z_10 : w9.heap.size ≤ w10.heap.size := hM10.size
  have B_10 := Below.marked (B_9) hM10 (by omega) (by omega)
  have hq6 : ¬ (1 + ((sumLen xs0 : Nat) : Int) < 0) := by omega
  go_wp2_with fail
  refine (eqInt64SS_any _ _ _ _ X0 X0 _ _ _ ((g3_10).rd) ((g1_10).rd) hX0 hX0).mono ?_
  rintro e w11 ⟨rfl, hb11⟩
  have r0_11 := (r0_10).below hb11
  have t0_0_11 := (t0_0_10).below hb11
  have g1_11 := (g1_10).below hb11
  have gg1_11 := (gg1_10).below hb11
  have g3_11 := (g3_10).below hb11
  have gg3_11 := (gg3_10).below hb11
  have t0_4_11 := (t0_4_10).below hb11
  have z_11 : w10.heap.size ≤ w11.heap.size := hb11.size
  have B_11 := (B_10).trans (hb11.mono (by omega))
  go_wp2_with fail
  refine (eqMoveS_any _ _ _ _ X1 X1 _ ((gg3_11).rd) ((gg1_11).rd) hX1 hX1).mono ?_
  rintro e w12 ⟨rfl, hb12⟩
  have r0_12 := (r0_11).below hb12
  have t0_0_12 := (t0_0_11).below hb12
  have g1_12 := (g1_11).below hb12
  have gg1_12 := (gg1_11).below hb12
  have g3_12 := (g3_11).below hb12
  have gg3_12 := (gg3_11).below hb12
  have t0_4_12 := (t0_4_11).below hb12
  have z_12 : w11.heap.size ≤ w12.heap.size := hb12.size
  have B_12 := (B_11).trans (hb12.mono (by omega))
  go_wp2_with fail
  refine (markInt64SS_any _ _ _ _ X0 _ _ (g3_12) hX0 (by omega) (by omega)).mono ?_
  rintro e w13 ⟨rfl, g3_13, hM13⟩
  have r0_13 := (r0_12).marked hM13 (by omega) (by omega)
  have t0_0_13 := (t0_0_12).marked hM13 (by omega) (by omega)
  have g1_13 := (g1_12).marked hM13 (by omega) (by omega)
  have gg1_13 := (gg1_12).marked hM13 (fun g hg => by have := ge_gg1 g hg; omega)
  have gg3_13 := (gg3_12).marked hM13 (fun g hg => by have := ge_gg3 g hg; have := out5 g hg; omega)
  have t0_4_13 := (t0_4_12).marked hM13 (by omega) (by omega)
  have z_13 : w12.heap.size ≤ w13.heap.size := hM13.size
  have B_13 := Below.marked (B_12) hM13 (by omega) (by omega)
  go_wp2_with fail
  refine (markMoveS_any _ _ _ X1 _ _ (gg3_13) hX1 (by omega) (by omega)).mono ?_
  rintro e w14 ⟨rfl, gg3_14, hg14⟩
  have hM14 := Marked.of_grown (lo := w4.heap.size) (hi := w5.heap.size) hg14 (fun g hg => ge_gg3 g hg)
  have r0_14 := (r0_13).marked hM14 (by omega) (by omega)
  have t0_0_14 := (t0_0_13).marked hM14 (by omega) (by omega)
  have g1_14 := (g1_13).marked hM14 (by omega) (by omega)
  have gg1_14 := (gg1_13).marked hM14 (fun g hg => by have := ge_gg1 g hg; omega)
  have g3_14 := OwnC.setGrown (g3_13) hg14 (by omega) (fun b q1 q2 e => by have := out5 b e.symm; omega)
  have t0_4_14 := (t0_4_13).marked hM14 (by omega) (by omega)
  have z_14 : w13.heap.size ≤ w14.heap.size := hM14.size
  have B_14 := Below.marked (B_13) hM14 (by omega) (by omega)
  go_wp2_with fail
  refine (heldInt64SS_any _ _ _ X0 _ _ ((g3_14).rd) hX0 (by omega) (by omega)).mono ?_
  rintro e w15 ⟨rfl, hb15⟩
  have r0_15 := (r0_14).below hb15
  have t0_0_15 := (t0_0_14).below hb15
  have g1_15 := (g1_14).below hb15
  have gg1_15 := (gg1_14).below hb15
  have g3_15 := (g3_14).below hb15
  have gg3_15 := (gg3_14).below hb15
  have t0_4_15 := (t0_4_14).below hb15
  have z_15 : w14.heap.size ≤ w15.heap.size := hb15.size
  have B_15 := (B_14).trans (hb15.mono (by omega))
  have hq7 : ¬ (1 + ((sumLen X0 : Nat) : Int) < 0) := by omega
  go_wp2_with fail
  refine (heldMoveS_any _ _ X1.length _ _ ((gg3_15).rd) hX1 (by omega) (by omega)).mono ?_
  rintro e w16 ⟨rfl, hb16⟩
  have r0_16 := (r0_15).below hb16
  have t0_0_16 := (t0_0_15).below hb16
  have g1_16 := (g1_15).below hb16
  have gg1_16 := (gg1_15).below hb16
  have g3_16 := (g3_15).below hb16
  have gg3_16 := (gg3_15).below hb16
  have t0_4_16 := (t0_4_15).below hb16
  have z_16 : w15.heap.size ≤ w16.heap.size := hb16.size
  have B_16 := (B_15).trans (hb16.mono (by omega))
  have hq8 : ¬ (1 + ((sumLen X0 : Nat) : Int) + (3 * (X1.length : Int) : Int) < 0) := by omega
  have hq9 : (1 + ((sumLen X0 : Nat) : Int) + (3 * (X1.length : Int) : Int) != 1 + ((sumLen X0 : Nat) : Int) + (3 * (X1.length : Int) : Int)) = false := by simp
  go_wp2_with fail
  refine (toInt64SS_any _ _ xs0 _ _ (r0_16) hn0).mono ?_
  rintro e w17 ⟨E17, f17, rfl, t0_9_17, hb17⟩
  have r0_17 := (r0_16).below hb17
  have t0_0_17 := (t0_0_16).below hb17
  have g1_17 := (g1_16).below hb17
  have gg1_17 := (gg1_16).below hb17
  have g3_17 := (g3_16).below hb17
  have gg3_17 := (gg3_16).below hb17
  have t0_4_17 := (t0_4_16).below hb17
  have z_17 : w16.heap.size ≤ w17.heap.size := hb17.size
  have B_17 := (B_16).trans (hb17.mono (by omega))
  go_wp2_with fail
  refine (himpl.out _ _ _ _ ((t0_9_17).rd)).mono ?_
  rintro e w18 ⟨E18, f18, EE18, ff18, L18, H18, rfl, hL18, hH18, g10_18, gg10_18, out18, hb18⟩
  have r0_18 := (r0_17).below hb18
  have t0_0_18 := (t0_0_17).below hb18
  have g1_18 := (g1_17).below hb18
  have gg1_18 := (gg1_17).below hb18
  have g3_18 := (g3_17).below hb18
  have gg3_18 := (gg3_17).below hb18
  have t0_4_18 := (t0_4_17).below hb18
  have t0_9_18 := (t0_9_17).below hb18
  have z_18 : w17.heap.size ≤ w18.heap.size := hb18.size
  have B_18 := (B_17).trans (hb18.mono (by omega))
  have ge_gg10 := fun g hg => (gg10_18).ge (g := g) hg
  go_wp2_with fail
  refine (eqInt64SS_any _ _ _ _ X0 X0 _ _ _ ((g10_18).rd) ((g1_18).rd) hX0 hX0).mono ?_
  rintro e w19 ⟨rfl, hb19⟩
  have r0_19 := (r0_18).below hb19
  have t0_0_19 := (t0_0_18).below hb19
  have g1_19 := (g1_18).below hb19
  have gg1_19 := (gg1_18).below hb19
  have g3_19 := (g3_18).below hb19
  have gg3_19 := (gg3_18).below hb19
  have t0_4_19 := (t0_4_18).below hb19
  have t0_9_19 := (t0_9_18).below hb19
  have g10_19 := (g10_18).below hb19
  have gg10_19 := (gg10_18).below hb19
  have z_19 : w18.heap.size ≤ w19.heap.size := hb19.size
  have B_19 := (B_18).trans (hb19.mono (by omega))
  go_wp2_with fail
  refine (eqMoveS_any _ _ _ _ X1 X1 _ ((gg10_19).rd) ((gg1_19).rd) hX1 hX1).mono ?_
  rintro e w20 ⟨rfl, hb20⟩
  have r0_20 := (r0_19).below hb20
  have t0_0_20 := (t0_0_19).below hb20
  have g1_20 := (g1_19).below hb20
  have gg1_20 := (gg1_19).below hb20
  have g3_20 := (g3_19).below hb20
  have gg3_20 := (gg3_19).below hb20
  have t0_4_20 := (t0_4_19).below hb20
  have t0_9_20 := (t0_9_19).below hb20
  have g10_20 := (g10_19).below hb20
  have gg10_20 := (gg10_19).below hb20
  have z_20 : w19.heap.size ≤ w20.heap.size := hb20.size
  have B_20 := (B_19).trans (hb20.mono (by omega))
  go_wp2_with fail
  refine (heldInt64SS_any _ _ _ X0 _ _ ((g3_20).rd) hX0 (by omega) (by omega)).mono ?_
  rintro e w21 ⟨rfl, hb21⟩
  have r0_21 := (r0_20).below hb21
  have t0_0_21 := (t0_0_20).below hb21
  have g1_21 := (g1_20).below hb21
  have gg1_21 := (gg1_20).below hb21
  have g3_21 := (g3_20).below hb21
  have gg3_21 := (gg3_20).below hb21
  have t0_4_21 := (t0_4_20).below hb21
  have t0_9_21 := (t0_9_20).below hb21
  have g10_21 := (g10_20).below hb21
  have gg10_21 := (gg10_20).below hb21
  have z_21 : w20.heap.size ≤ w21.heap.size := hb21.size
  have B_21 := (B_20).trans (hb21.mono (by omega))
  have hq12 : ¬ (1 + ((sumLen X0 : Nat) : Int) < 0) := by omega
  go_wp2_with fail
  refine (heldMoveS_any _ _ X1.length _ _ ((gg3_21).rd) hX1 (by omega) (by omega)).mono ?_
  rintro e w22 ⟨rfl, hb22⟩
  have r0_22 := (r0_21).below hb22
  have t0_0_22 := (t0_0_21).below hb22
  have g1_22 := (g1_21).below hb22
  have gg1_22 := (gg1_21).below hb22
  have g3_22 := (g3_21).below hb22
  have gg3_22 := (gg3_21).below hb22
  have t0_4_22 := (t0_4_21).below hb22
  have t0_9_22 := (t0_9_21).below hb22
  have g10_22 := (g10_21).below hb22
  have gg10_22 := (gg10_21).below hb22
  have z_22 : w21.heap.size ≤ w22.heap.size := hb22.size
  have B_22 := (B_21).trans (hb22.mono (by omega))
  have hq13 : ¬ (1 + ((sumLen X0 : Nat) : Int) + (3 * (X1.length : Int) : Int) < 0) := by omega
  have hq14 : (1 + ((sumLen X0 : Nat) : Int) + (3 * (X1.length : Int) : Int) != 1 + ((sumLen X0 : Nat) : Int) + (3 * (X1.length : Int) : Int)) = false := by simp
  go_wp2_with fail
  go_ret
  exact ⟨rfl, B_22⟩

theorem walk_SimplifyCode_of (A0 : Option Addr) (c0 : Nat) (xs0 : List (List Int)) (w : World) (hx0 : ArgC w A0 c0 xs0)
    (h : (xs0.length + sumLen xs0) ≤ 1048576 → ∃ (X0 : List (List Int)) (X1 : List (Int × Int × Int)) (v2 : Int), X0.length + sumLen X0 ≤ 1048576 ∧ X1.length ≤ 1048576 ∧ (∀ (W : World) (B0 : Option Addr) (d0 T0 : Nat), RC W T0 B0 xs0 → Calls Try.prog 43 #[.slice B0 xs0.length d0] W (RetCMI2 W X0 X1 v2)) ∧ (∀ (W : World) (B0 : Option Addr) (d0 T0 : Nat), RC W T0 B0 xs0 → Calls Try.prog 44 #[.slice B0 xs0.length d0] W (RetCMI2 W X0 X1 v2))) :
    Calls Try.prog 11 #[.slice A0 xs0.length c0] w fun e w' => e = .returned (.bool true) ∧ Below w.heap.size w w' := by
  by_cases hs : (xs0.length + sumLen xs0) ≤ 1048576
  · obtain ⟨X0, X1, v2, hX0, hX1, h1, h2⟩ := h hs
    exact walk_SimplifyCode_core A0 c0 xs0 w hx0 hs X0 X1 v2 hX0 hX1 h1 h2
  · exact walk_SimplifyCode_big0 A0 c0 xs0 w hx0 (by omega)

end Go.Proofs.Ytenbjfkmfcbdiaa
