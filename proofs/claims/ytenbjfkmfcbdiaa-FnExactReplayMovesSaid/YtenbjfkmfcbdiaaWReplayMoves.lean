/-
  The core of the walk of the law FnExactReplayMoves: the law answers true wherever the two functions hand back the same. Conditions: the two functions' contracts, given as hypotheses.
-/
import Derived.Test.YtenbjfkmfcbdiaaOpenC
import Derived.Test.YtenbjfkmfcbdiaaOpenM
import Derived.Test.YtenbjfkmfcbdiaaRet
import Derived.Test.YtenbjfkmfcbdiaaMoveMark
namespace Go.Proofs.Ytenbjfkmfcbdiaa
open Go.RowKit
set_option linter.unusedVariables false

set_option maxHeartbeats 1000000 in
theorem walk_ReplayMoves_big0 (A0 : Option Addr) (c0 : Nat) (xs0 : List (List Int)) (A1 : Option Addr) (c1 : Nat) (xs1 : List (Int × Int × Int)) (w : World) (hx0 : ArgC w A0 c0 xs0) (hx1 : ArgM w A1 c1 xs1)  (hno : 1048576 < (xs0.length + sumLen xs0)) :
    Calls Try.prog 10 #[.slice A0 xs0.length c0, .slice A1 xs1.length c1] w fun e w' => e = .returned (.bool true) ∧ Below w.heap.size w w' := by
  obtain ⟨hl0, hm0, hr0, hi0⟩ := hx0
  obtain ⟨hl1, hm1, hr1, hi1⟩ := hx1
  go_enter Try.func10, Try.ntmps10
  have k0 : (1048576 : Int) < (((xs0.length + sumLen xs0) : Nat) : Int) := by omega
  go_wp2_with fail
  refine (szInt64SS_no _ _ _ _ _ _ (hr0) (by omega) (by omega) k0 (by omega)).mono ?_
  rintro e w1 ⟨rfl, hb1⟩
  have r0_1 := (hr0).below hb1
  have r1_1 := (hr1).below hb1
  have z_1 : w.heap.size ≤ w1.heap.size := hb1.size
  have B_1 := (Below.refl w.heap.size w).trans (hb1.mono (by omega))
  go_wp2_with fail
  go_ret
  exact ⟨rfl, B_1⟩

set_option maxHeartbeats 1000000 in
theorem walk_ReplayMoves_big1 (A0 : Option Addr) (c0 : Nat) (xs0 : List (List Int)) (A1 : Option Addr) (c1 : Nat) (xs1 : List (Int × Int × Int)) (w : World) (hx0 : ArgC w A0 c0 xs0) (hx1 : ArgM w A1 c1 xs1) (hs0 : (xs0.length + sumLen xs0) ≤ 1048576) (hno : 1048576 < (xs0.length + sumLen xs0) + xs1.length) :
    Calls Try.prog 10 #[.slice A0 xs0.length c0, .slice A1 xs1.length c1] w fun e w' => e = .returned (.bool true) ∧ Below w.heap.size w w' := by
  obtain ⟨hl0, hm0, hr0, hi0⟩ := hx0
  obtain ⟨hl1, hm1, hr1, hi1⟩ := hx1
  go_enter Try.func10, Try.ntmps10
  have k0 : (((xs0.length + sumLen xs0) : Nat) : Int) ≤ 1048576 := by omega
  go_wp2_with fail
  refine (szInt64SS_ok _ _ _ _ _ _ (hr0) k0 (by omega)).mono ?_
  rintro e w1 ⟨rfl, hb1⟩
  have r0_1 := (hr0).below hb1
  have r1_1 := (hr1).below hb1
  have z_1 : w.heap.size ≤ w1.heap.size := hb1.size
  have B_1 := (Below.refl w.heap.size w).trans (hb1.mono (by omega))
  have kk0 : ¬ (1048576 - (((xs0.length + sumLen xs0) : Nat) : Int) < 0) := by omega
  have k1 : (1048576 - (((xs0.length + sumLen xs0) : Nat) : Int) : Int) < ((xs1.length : Nat) : Int) := by omega
  go_wp2_with fail
  refine (szMoveS_no _ _ _ _ _ (by omega) k1 (by omega)).mono ?_
  rintro e w2 ⟨rfl, hb2⟩
  have r0_2 := (r0_1).below hb2
  have r1_2 := (r1_1).below hb2
  have z_2 : w1.heap.size ≤ w2.heap.size := hb2.size
  have B_2 := (B_1).trans (hb2.mono (by omega))
  go_wp2_with fail
  go_ret
  exact ⟨rfl, B_2⟩

set_option maxRecDepth 20000 in
set_option maxHeartbeats 4000000 in
theorem walk_ReplayMoves_core (A0 : Option Addr) (c0 : Nat) (xs0 : List (List Int)) (A1 : Option Addr) (c1 : Nat) (xs1 : List (Int × Int × Int)) (w : World) (hx0 : ArgC w A0 c0 xs0) (hx1 : ArgM w A1 c1 xs1) (hsm : (xs0.length + sumLen xs0) + xs1.length ≤ 1048576) (X0 : List (List Int)) (v1 : Int) (v2 : Int) (hX0 : X0.length + sumLen X0 ≤ 1048576)
    (hspec0 : ∀ (W : World) (B0 : Option Addr) (d0 T0 : Nat) (B1 : Option Addr) (d1 : Nat), RC W T0 B0 xs0 → RG mvE W B1 xs1 → Calls Try.prog 41 #[.slice B0 xs0.length d0, .slice B1 xs1.length d1] W (RetCII W X0 v1 v2))
    (himpl0 : ∀ (W : World) (B0 : Option Addr) (d0 T0 : Nat) (B1 : Option Addr) (d1 : Nat), RC W T0 B0 xs0 → RG mvE W B1 xs1 → Calls Try.prog 42 #[.slice B0 xs0.length d0, .slice B1 xs1.length d1] W (RetCII W X0 v1 v2)) :
    Calls Try.prog 10 #[.slice A0 xs0.length c0, .slice A1 xs1.length c1] w fun e w' => e = .returned (.bool true) ∧ Below w.heap.size w w' := by
  obtain ⟨hl0, hm0, hr0, hi0⟩ := hx0
  obtain ⟨hl1, hm1, hr1, hi1⟩ := hx1
  have hspec := hide hspec0; have himpl := hide himpl0; clear hspec0 himpl0
  have hn0 : (xs0.length + sumLen xs0) ≤ 1048576 := by omega
  have hn1 : xs1.length ≤ 1048576 := by omega
  have hv1 : (v1 != v1) = false := by simp
  have hv2 : (v2 != v2) = false := by simp
  go_enter Try.func10, Try.ntmps10
  have k_0 : (((xs0.length + sumLen xs0) : Nat) : Int) ≤ 1048576 := by omega
  go_wp2_with fail
  refine (szInt64SS_ok _ _ _ _ _ _ (hr0) k_0 (by omega)).mono ?_
  rintro e w1 ⟨rfl, hb1⟩
  have r0_1 := (hr0).below hb1
  have r1_1 := (hr1).below hb1
  have z_1 : w.heap.size ≤ w1.heap.size := hb1.size
  have B_1 := (Below.refl w.heap.size w).trans (hb1.mono (by omega))
  have kk_0 : ¬ (1048576 - (((xs0.length + sumLen xs0) : Nat) : Int) < 0) := by omega
  have k_1 : ((xs1.length : Nat) : Int) ≤ 1048576 - (((xs0.length + sumLen xs0) : Nat) : Int) := by omega
  go_wp2_with fail
  refine (szMoveS_ok _ _ _ _ _ k_1 (by omega)).mono ?_
  rintro e w2 ⟨rfl, hb2⟩
  have r0_2 := (r0_1).below hb2
  have r1_2 := (r1_1).below hb2
  have z_2 : w1.heap.size ≤ w2.heap.size := hb2.size
  have B_2 := (B_1).trans (hb2.mono (by omega))
  have kk_1 : ¬ (1048576 - (((xs0.length + sumLen xs0) : Nat) : Int) - ((xs1.length : Nat) : Int) < 0) := by omega
  go_wp2_with fail
  refine (toInt64SS_any _ _ xs0 _ _ (r0_2) hn0).mono ?_
  rintro e w3 ⟨E3, f3, rfl, t0_0_3, hb3⟩
  have r0_3 := (r0_2).below hb3
  have r1_3 := (r1_2).below hb3
  have z_3 : w2.heap.size ≤ w3.heap.size := hb3.size
  have B_3 := (B_2).trans (hb3.mono (by omega))
  go_wp2_with fail
  refine (toMoveS_any _ _ xs1 _ (r1_3) hn1).mono ?_
  rintro e w4 ⟨E4, f4, rfl, t1_1_4, hb4⟩
  have r0_4 := (r0_3).below hb4
  have r1_4 := (r1_3).below hb4
  have t0_0_4 := (t0_0_3).below hb4
  have z_4 : w3.heap.size ≤ w4.heap.size := hb4.size
  have B_4 := (B_3).trans (hb4.mono (by omega))
  have ge_t1_1 := fun g hg => (t1_1_4).ge (g := g) hg
  go_wp2_with fail
  refine (hspec.out _ _ _ _ _ _ ((t0_0_4).rd) ((t1_1_4).rd)).mono ?_
  rintro e w5 ⟨E5, f5, rfl, g2_5, hb5⟩
  have r0_5 := (r0_4).below hb5
  have r1_5 := (r1_4).below hb5
  have t0_0_5 := (t0_0_4).below hb5
  have t1_1_5 := (t1_1_4).below hb5
  have z_5 : w4.heap.size ≤ w5.heap.size := hb5.size
  have B_5 := (B_4).trans (hb5.mono (by omega))
  go_wp2_with fail
  refine (toInt64SS_any _ _ xs0 _ _ (r0_5) hn0).mono ?_
  rintro e w6 ⟨E6, f6, rfl, t0_3_6, hb6⟩
  have r0_6 := (r0_5).below hb6
  have r1_6 := (r1_5).below hb6
  have t0_0_6 := (t0_0_5).below hb6
  have t1_1_6 := (t1_1_5).below hb6
  have g2_6 := (g2_5).below hb6
  have z_6 : w5.heap.size ≤ w6.heap.size := hb6.size
  have B_6 := (B_5).trans (hb6.mono (by omega))
  go_wp2_with fail
  refine (toMoveS_any _ _ xs1 _ (r1_6) hn1).mono ?_
  rintro e w7 ⟨E7, f7, rfl, t1_4_7, hb7⟩
  have r0_7 := (r0_6).below hb7
  have r1_7 := (r1_6).below hb7
  have t0_0_7 := (t0_0_6).below hb7
  have t1_1_7 := (t1_1_6).below hb7
  have g2_7 := (g2_6).below hb7
  have t0_3_7 := (t0_3_6).below hb7
  have z_7 : w6.heap.size ≤ w7.heap.size := hb7.size
  have B_7 := (B_6).trans (hb7.mono (by omega))
  have ge_t1_4 := fun g hg => (t1_4_7).ge (g := g) hg
  go_wp2_with fail
  refine (himpl.out _ _ _ _ _ _ ((t0_3_7).rd) ((t1_4_7).rd)).mono ?_
  rintro e w8 ⟨E8, f8, rfl, g5_8, hb8⟩
  have r0_8 := (r0_7).below hb8
  have r1_8 := (r1_7).below hb8
  have t0_0_8 := (t0_0_7).below hb8
  have t1_1_8 := (t1_1_7).below hb8
  have g2_8 := (g2_7).below hb8
  have t0_3_8 := (t0_3_7).below hb8
  have t1_4_8 := (t1_4_7).below hb8
  have z_8 : w7.heap.size ≤ w8.heap.size := hb8.size
  have B_8 := (B_7).trans (hb8.mono (by omega))
  go_wp2_with fail
  refine (eqInt64SS_any _ _ _ _ X0 X0 _ _ _ ((g5_8).rd) ((g2_8).rd) hX0 hX0).mono ?_
  rintro e w9 ⟨rfl, hb9⟩
  have r0_9 := (r0_8).below hb9
  have r1_9 := (r1_8).below hb9
  have t0_0_9 := (t0_0_8).below hb9
  have t1_1_9 := (t1_1_8).below hb9
  have g2_9 := (g2_8).below hb9
  have t0_3_9 := (t0_3_8).below hb9
  have t1_4_9 := (t1_4_8).below hb9
  have g5_9 := (g5_8).below hb9
  have z_9 : w8.heap.size ≤ w9.heap.size := hb9.size
  have B_9 := (B_8).trans (hb9.mono (by omega))
  go_wp2_with fail
  refine (toInt64SS_any _ _ xs0 _ _ (r0_9) hn0).mono ?_
  rintro e w10 ⟨E10, f10, rfl, t0_6_10, hb10⟩
  have r0_10 := (r0_9).below hb10
  have r1_10 := (r1_9).below hb10
  have t0_0_10 := (t0_0_9).below hb10
  have t1_1_10 := (t1_1_9).below hb10
  have g2_10 := (g2_9).below hb10
  have t0_3_10 := (t0_3_9).below hb10
  have t1_4_10 := (t1_4_9).below hb10
  have g5_10 := (g5_9).below hb10
  have z_10 : w9.heap.size ≤ w10.heap.size := hb10.size
  have B_10 := (B_9).trans (hb10.mono (by omega))
  go_wp2_with fail
  refine (eqInt64SS_any _ _ _ _ xs0 xs0 _ _ _ ((t0_3_10).rd) ((t0_6_10).rd) hn0 hn0).mono ?_
  rintro e w11 ⟨rfl, hb11⟩
  have r0_11 := (r0_10).below hb11
  have r1_11 := (r1_10).below hb11
  have t0_0_11 := (t0_0_10).below hb11
  have t1_1_11 := (t1_1_10).below hb11
  have g2_11 := (g2_10).below hb11
  have t0_3_11 := (t0_3_10).below hb11
  have t1_4_11 := (t1_4_10).below hb11
  have g5_11 := (g5_10).below hb11
  have t0_6_11 := (t0_6_10).below hb11
  have z_11 : w10.heap.size ≤ w11.heap.size := hb11.size
  have B_11 := (B_10).trans (hb11.mono (by omega))
  go_wp2_with fail
  refine (toMoveS_any _ _ xs1 _ (r1_11) hn1).mono ?_
  rintro e w12 ⟨E12, f12, rfl, t1_7_12, hb12⟩
  have r0_12 := (r0_11).below hb12
  have r1_12 := (r1_11).below hb12
  have t0_0_12 := (t0_0_11).below hb12
  have t1_1_12 := (t1_1_11).below hb12
  have g2_12 := (g2_11).below hb12
  have t0_3_12 := (t0_3_11).below hb12
  have t1_4_12 := (t1_4_11).below hb12
  have g5_12 := (g5_11).below hb12
  have t0_6_12 := (t0_6_11).below hb12
  have z_12 : w11.heap.size ≤ w12.heap.size := hb12.size
  have B_12 := (B_11).trans (hb12.mono (by omega))
  have ge_t1_7 := fun g hg => (t1_7_12).ge (g := g) hg
  go_wp2_with fail
  refine (eqMoveS_any _ _ _ _ xs1 xs1 _ ((t1_4_12).rd) ((t1_7_12).rd) hn1 hn1).mono ?_
  rintro e w13 ⟨rfl, hb13⟩
  have r0_13 := (r0_12).below hb13
  have r1_13 := (r1_12).below hb13
  have t0_0_13 := (t0_0_12).below hb13
  have t1_1_13 := (t1_1_12).below hb13
  have g2_13 := (g2_12).below hb13
  have t0_3_13 := (t0_3_12).below hb13
  have t1_4_13 := (t1_4_12).below hb13
  have g5_13 := (g5_12).below hb13
  have t0_6_13 := (t0_6_12).below hb13
  have t1_7_13 := (t1_7_12).below hb13
  have z_13 : w12.heap.size ≤ w13.heap.size := hb13.size
  have B_13 := (B_12).trans (hb13.mono (by omega))
  go_wp2_with fail
  refine (markInt64SS_any _ _ _ _ xs0 _ _ (t0_3_13) hn0 (by omega) (by omega)).mono ?_
  rintro e w14 ⟨rfl, t0_3_14, hM14⟩
  have r0_14 := (r0_13).marked hM14 (by omega) (by omega)
  have r1_14 := (r1_13).marked hM14 (fun g hg hn => by have := (hr1).lt hn hg; omega)
  have t0_0_14 := (t0_0_13).marked hM14 (by omega) (by omega)
  have t1_1_14 := (t1_1_13).marked hM14 (fun g hg => by have := ge_t1_1 g hg; omega)
  have g2_14 := (g2_13).marked hM14 (by omega) (by omega)
  have t1_4_14 := (t1_4_13).marked hM14 (fun g hg => by have := ge_t1_4 g hg; omega)
  have g5_14 := (g5_13).marked hM14 (by omega) (by omega)
  have t0_6_14 := (t0_6_13).marked hM14 (by omega) (by omega)
  have t1_7_14 := (t1_7_13).marked hM14 (fun g hg => by have := ge_t1_7 g hg; omega)
  have z_14 : w13.heap.size ≤ w14.heap.size := hM14.size
  have B_14 := Below.marked (B_13) hM14 (by omega) (by omega)
  go_wp2_with fail
  refine (markMoveS_any _ _ _ xs1 _ _ (t1_4_14) hn1 (by omega) (by omega)).mono ?_
  rintro e w15 ⟨rfl, t1_4_15, hg15⟩
  have hM15 := Marked.of_grown (lo := w6.heap.size) (hi := w7.heap.size) hg15 (fun g hg => ge_t1_4 g hg)
  have r0_15 := (r0_14).marked hM15 (by omega) (by omega)
  have r1_15 := (r1_14).marked hM15 (fun g hg hn => by have := (hr1).lt hn hg; omega)
  have t0_0_15 := (t0_0_14).marked hM15 (by omega) (by omega)
  have t1_1_15 := (t1_1_14).marked hM15 (fun g hg => by have := ge_t1_1 g hg; omega)
  have g2_15 := (g2_14).marked hM15 (by omega) (by omega)
  have g5_15 := (g5_14).marked hM15 (by omega) (by omega)
  have t0_6_15 := (t0_6_14).marked hM15 (by omega) (by omega)
  have t1_7_15 := (t1_7_14).marked hM15 (fun g hg => by have := ge_t1_7 g hg; omega)
  have z_15 : w14.heap.size ≤ w15.heap.size := hM15.size
  have B_15 := Below.marked (B_14) hM15 (by omega) (by omega)
  have hq9 : ¬ (1 + ((sumLen xs0 : Nat) : Int) + (3 * (xs1.length : Int) : Int) < 0) := by omega
  go_wp2_with fail
  refine (eqInt64SS_any _ _ _ _ X0 X0 _ _ _ ((g5_15).rd) ((g2_15).rd) hX0 hX0).mono ?_
  rintro e w16 ⟨rfl, hb16⟩
  have r0_16 := (r0_15).below hb16
  have r1_16 := (r1_15).below hb16
  have t0_0_16 := (t0_0_15).below hb16
  have t1_1_16 := (t1_1_15).below hb16
  have g2_16 := (g2_15).below hb16
  have g5_16 := (g5_15).below hb16
  have t0_6_16 := (t0_6_15).below hb16
  have t1_7_16 := (t1_7_15).below hb16
  have z_16 : w15.heap.size ≤ w16.heap.size := hb16.size
  have B_16 := (B_15).trans (hb16.mono (by omega))
  go_wp2_with fail
  refine (markInt64SS_any _ _ _ _ X0 _ _ (g5_16) hX0 (by omega) (by omega)).mono ?_
  rintro e w17 ⟨rfl, g5_17, hM17⟩
  have r0_17 := (r0_16).marked hM17 (by omega) (by omega)
  have r1_17 := (r1_16).marked hM17 (fun g hg hn => by have := (hr1).lt hn hg; omega)
  have t0_0_17 := (t0_0_16).marked hM17 (by omega) (by omega)
  have t1_1_17 := (t1_1_16).marked hM17 (fun g hg => by have := ge_t1_1 g hg; omega)
  have g2_17 := (g2_16).marked hM17 (by omega) (by omega)
  have t0_6_17 := (t0_6_16).marked hM17 (by omega) (by omega)
  have t1_7_17 := (t1_7_16).marked hM17 (fun g hg => by have := ge_t1_7 g hg; omega)
  have z_17 : w16.heap.size ≤ w17.heap.size := hM17.size
  have B_17 := Below.marked (B_16) hM17 (by omega) (by omega)
  go_wp2_with fail
  refine (heldInt64SS_any _ _ _ X0 _ _ ((g5_17).rd) hX0 (by omega) (by omega)).mono ?_
  rintro e w18 ⟨rfl, hb18⟩
  have r0_18 := (r0_17).below hb18
  have r1_18 := (r1_17).below hb18
  have t0_0_18 := (t0_0_17).below hb18
  have t1_1_18 := (t1_1_17).below hb18
  have g2_18 := (g2_17).below hb18
  have g5_18 := (g5_17).below hb18
  have t0_6_18 := (t0_6_17).below hb18
  have t1_7_18 := (t1_7_17).below hb18
  have z_18 : w17.heap.size ≤ w18.heap.size := hb18.size
  have B_18 := (B_17).trans (hb18.mono (by omega))
  have hq10 : ¬ (1 + ((sumLen X0 : Nat) : Int) < 0) := by omega
  have hq11 : (1 + ((sumLen X0 : Nat) : Int) != 1 + ((sumLen X0 : Nat) : Int)) = false := by simp
  go_wp2_with fail
  refine (toInt64SS_any _ _ xs0 _ _ (r0_18) hn0).mono ?_
  rintro e w19 ⟨E19, f19, rfl, t0_11_19, hb19⟩
  have r0_19 := (r0_18).below hb19
  have r1_19 := (r1_18).below hb19
  have t0_0_19 := (t0_0_18).below hb19
  have t1_1_19 := (t1_1_18).below hb19
  have g2_19 := (g2_18).below hb19
  have g5_19 := (g5_18).below hb19
  have t0_6_19 := (t0_6_18).below hb19
  have t1_7_19 := (t1_7_18).below hb19
  have z_19 : w18.heap.size ≤ w19.heap.size := hb19.size
  have B_19 := (B_18).trans (hb19.mono (by omega))
  go_wp2_with fail
  refine (toMoveS_any _ _ xs1 _ (r1_19) hn1).mono ?_
  rintro e w20 ⟨E20, f20, rfl, t1_12_20, hb20⟩
  have r0_20 := (r0_19).below hb20
  have r1_20 := (r1_19).below hb20
  have t0_0_20 := (t0_0_19).below hb20
  have t1_1_20 := (t1_1_19).below hb20
  have g2_20 := (g2_19).below hb20
  have g5_20 := (g5_19).below hb20
  have t0_6_20 := (t0_6_19).below hb20
  have t1_7_20 := (t1_7_19).below hb20
  have t0_11_20 := (t0_11_19).below hb20
  have z_20 : w19.heap.size ≤ w20.heap.size := hb20.size
  have B_20 := (B_19).trans (hb20.mono (by omega))
  have ge_t1_12 := fun g hg => (t1_12_20).ge (g := g) hg
  go_wp2_with fail
  refine (himpl.out _ _ _ _ _ _ ((t0_11_20).rd) ((t1_12_20).rd)).mono ?_
  rintro e w21 ⟨E21, f21, rfl, g13_21, hb21⟩
  have r0_21 := (r0_20).below hb21
  have r1_21 := (r1_20).below hb21
  have t0_0_21 := (t0_0_20).below hb21
  have t1_1_21 := (t1_1_20).below hb21
  have g2_21 := (g2_20).below hb21
  have g5_21 := (g5_20).below hb21
  have t0_6_21 := (t0_6_20).below hb21
  have t1_7_21 := (t1_7_20).below hb21
  have t0_11_21 := (t0_11_20).below hb21
  have t1_12_21 := (t1_12_20).below hb21
  have z_21 : w20.heap.size ≤ w21.heap.size := hb21.size
  have B_21 := (B_20).trans (hb21.mono (by omega))
  go_wp2_with fail
  refine (eqInt64SS_any _ _ _ _ X0 X0 _ _ _ ((g13_21).rd) ((g2_21).rd) hX0 hX0).mono ?_
  rintro e w22 ⟨rfl, hb22⟩
  have r0_22 := (r0_21).below hb22
  have r1_22 := (r1_21).below hb22
  have t0_0_22 := (t0_0_21).below hb22
  have t1_1_22 := (t1_1_21).below hb22
  have g2_22 := (g2_21).below hb22
  have g5_22 := (g5_21).below hb22
  have t0_6_22 := (t0_6_21).below hb22
  have t1_7_22 := (t1_7_21).below hb22
  have t0_11_22 := (t0_11_21).below hb22
  have t1_12_22 := (t1_12_21).below hb22
  have g13_22 := (g13_21).below hb22
  have z_22 : w21.heap.size ≤ w22.heap.size := hb22.size
  have B_22 := (B_21).trans (hb22.mono (by omega))
  go_wp2_with fail
  refine (heldInt64SS_any _ _ _ X0 _ _ ((g5_22).rd) hX0 (by omega) (by omega)).mono ?_
  rintro e w23 ⟨rfl, hb23⟩
  have r0_23 := (r0_22).below hb23
  have r1_23 := (r1_22).below hb23
  have t0_0_23 := (t0_0_22).below hb23
  have t1_1_23 := (t1_1_22).below hb23
  have g2_23 := (g2_22).below hb23
  have g5_23 := (g5_22).below hb23
  have t0_6_23 := (t0_6_22).below hb23
  have t1_7_23 := (t1_7_22).below hb23
  have t0_11_23 := (t0_11_22).below hb23
  have t1_12_23 := (t1_12_22).below hb23
  have g13_23 := (g13_22).below hb23
  have z_23 : w22.heap.size ≤ w23.heap.size := hb23.size
  have B_23 := (B_22).trans (hb23.mono (by omega))
  have hq15 : ¬ (1 + ((sumLen X0 : Nat) : Int) < 0) := by omega
  have hq16 : (1 + ((sumLen X0 : Nat) : Int) != 1 + ((sumLen X0 : Nat) : Int)) = false := by simp
  go_wp2_with fail
  go_ret
  exact ⟨rfl, B_23⟩

theorem walk_ReplayMoves_of (A0 : Option Addr) (c0 : Nat) (xs0 : List (List Int)) (A1 : Option Addr) (c1 : Nat) (xs1 : List (Int × Int × Int)) (w : World) (hx0 : ArgC w A0 c0 xs0) (hx1 : ArgM w A1 c1 xs1)
    (h : (xs0.length + sumLen xs0) + xs1.length ≤ 1048576 → ∃ (X0 : List (List Int)) (v1 : Int) (v2 : Int), X0.length + sumLen X0 ≤ 1048576 ∧ (∀ (W : World) (B0 : Option Addr) (d0 T0 : Nat) (B1 : Option Addr) (d1 : Nat), RC W T0 B0 xs0 → RG mvE W B1 xs1 → Calls Try.prog 41 #[.slice B0 xs0.length d0, .slice B1 xs1.length d1] W (RetCII W X0 v1 v2)) ∧ (∀ (W : World) (B0 : Option Addr) (d0 T0 : Nat) (B1 : Option Addr) (d1 : Nat), RC W T0 B0 xs0 → RG mvE W B1 xs1 → Calls Try.prog 42 #[.slice B0 xs0.length d0, .slice B1 xs1.length d1] W (RetCII W X0 v1 v2))) :
    Calls Try.prog 10 #[.slice A0 xs0.length c0, .slice A1 xs1.length c1] w fun e w' => e = .returned (.bool true) ∧ Below w.heap.size w w' := by
  by_cases hs : (xs0.length + sumLen xs0) + xs1.length ≤ 1048576
  · obtain ⟨X0, v1, v2, hX0, h1, h2⟩ := h hs
    exact walk_ReplayMoves_core A0 c0 xs0 A1 c1 xs1 w hx0 hx1 hs X0 v1 v2 hX0 h1 h2
  · by_cases hs0 : (xs0.length + sumLen xs0) ≤ 1048576
    · exact walk_ReplayMoves_big1 A0 c0 xs0 A1 c1 xs1 w hx0 hx1 hs0 (by omega)
    · exact walk_ReplayMoves_big0 A0 c0 xs0 A1 c1 xs1 w hx0 hx1 (by omega)

end Go.Proofs.Ytenbjfkmfcbdiaa
