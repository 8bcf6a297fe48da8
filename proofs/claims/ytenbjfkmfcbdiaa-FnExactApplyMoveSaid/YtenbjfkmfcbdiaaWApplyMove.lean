/-
  The core of the walk of the law FnExactApplyMove: the law answers true wherever the two functions hand back the same. Conditions: the two functions' contracts, given as hypotheses.
-/
import Derived.Test.YtenbjfkmfcbdiaaOpenC
import Derived.Test.YtenbjfkmfcbdiaaRet
import Derived.Test.YtenbjfkmfcbdiaaApply
namespace Go.Proofs.Ytenbjfkmfcbdiaa
open Go.RowKit
set_option linter.unusedVariables false

set_option maxHeartbeats 1000000 in
theorem walk_ApplyMove_big0 (A0 : Option Addr) (c0 : Nat) (xs0 : List (List Int)) (x1 y1 z1 : Int) (w : World) (hx0 : ArgC w A0 c0 xs0)  (hno : 1048576 < (xs0.length + sumLen xs0)) :
    Calls Try.prog 9 #[.slice A0 xs0.length c0, .agg #[.int .i64 x1, .int .i64 y1, .int .i64 z1]] w fun e w' => e = .returned (.bool true) ∧ Below w.heap.size w w' := by
  obtain ⟨hl0, hm0, hr0, hi0⟩ := hx0
  have q0 : Bx (w.alloc (.cells #[.int .i64 x1, .int .i64 y1, .int .i64 z1] 40)) w.heap.size 40 #[.int .i64 x1, .int .i64 y1, .int .i64 z1] := Bx.new _ _ _
  go_enter Try.func9, Try.ntmps9
  have k0 : (1048576 : Int) < (((xs0.length + sumLen xs0) : Nat) : Int) := by omega
  go_wp2_with fail
  refine (szInt64SS_no _ _ _ _ _ _ ((hr0).alloc (.cells #[.int .i64 x1, .int .i64 y1, .int .i64 z1] 40)) (by omega) (by omega) k0 (by omega)).mono ?_
  rintro e w1 ⟨rfl, hb1⟩
  have r0_1 := ((hr0).alloc (.cells #[.int .i64 x1, .int .i64 y1, .int .i64 z1] 40)).below hb1
  have q_1 := (q0).below hb1
  obtain ⟨qa_1, qb_1, qc_1⟩ := q_1.three
  have z_1 : w.heap.size < w1.heap.size := Nat.lt_of_lt_of_le (by simp) hb1.size
  have B_1 := ((Below.refl w.heap.size w).alloc (Nat.le_refl _) (.cells #[.int .i64 x1, .int .i64 y1, .int .i64 z1] 40)).trans (hb1.mono (by simp))
  go_wp2_with fail
  go_ret
  exact ⟨rfl, B_1⟩

set_option maxRecDepth 20000 in
set_option maxHeartbeats 4000000 in
theorem walk_ApplyMove_core (A0 : Option Addr) (c0 : Nat) (xs0 : List (List Int)) (x1 y1 z1 : Int) (w : World) (hx0 : ArgC w A0 c0 xs0) (hsm : (xs0.length + sumLen xs0) ≤ 1048576) (X0 : List (List Int)) (v1 : Int) (hX0 : X0.length + sumLen X0 ≤ 1048576)
    (hspec0 : ∀ (W : World) (B0 : Option Addr) (d0 T0 : Nat), RC W T0 B0 xs0 → Calls Try.prog 39 #[.slice B0 xs0.length d0, .agg #[.int .i64 x1, .int .i64 y1, .int .i64 z1]] W (RetCC W X0 v1))
    (himpl0 : ∀ (W : World) (B0 : Option Addr) (d0 T0 : Nat), RC W T0 B0 xs0 → Calls Try.prog 40 #[.slice B0 xs0.length d0, .agg #[.int .i64 x1, .int .i64 y1, .int .i64 z1]] W (RetCC W X0 v1)) :
    Calls Try.prog 9 #[.slice A0 xs0.length c0, .agg #[.int .i64 x1, .int .i64 y1, .int .i64 z1]] w fun e w' => e = .returned (.bool true) ∧ Below w.heap.size w w' := by
  obtain ⟨hl0, hm0, hr0, hi0⟩ := hx0
  have q0 : Bx (w.alloc (.cells #[.int .i64 x1, .int .i64 y1, .int .i64 z1] 40)) w.heap.size 40 #[.int .i64 x1, .int .i64 y1, .int .i64 z1] := Bx.new _ _ _
  have hspec := hide hspec0; have himpl := hide himpl0; clear hspec0 himpl0
  have hn0 : (xs0.length + sumLen xs0) ≤ 1048576 := by omega
  have hv1 : (v1 != v1) = false := by simp
  go_enter Try.func9, Try.ntmps9
  have k_0 : (((xs0.length + sumLen xs0) : Nat) : Int) ≤ 1048576 := by omega
  go_wp2_with fail
  refine (szInt64SS_ok _ _ _ _ _ _ ((hr0).alloc (.cells #[.int .i64 x1, .int .i64 y1, .int .i64 z1] 40)) k_0 (by omega)).mono ?_
  rintro e w1 ⟨rfl, hb1⟩
  have r0_1 := ((hr0).alloc (.cells #[.int .i64 x1, .int .i64 y1, .int .i64 z1] 40)).below hb1
  have q_1 := (q0).below hb1
  obtain ⟨qa_1, qb_1, qc_1⟩ := q_1.three
  have z_1 : w.heap.size < w1.heap.size := Nat.lt_of_lt_of_le (by simp) hb1.size
  have B_1 := ((Below.refl w.heap.size w).alloc (Nat.le_refl _) (.cells #[.int .i64 x1, .int .i64 y1, .int .i64 z1] 40)).trans (hb1.mono (by simp))
  have kk_0 : ¬ (1048576 - (((xs0.length + sumLen xs0) : Nat) : Int) < 0) := by omega
  go_upto_region 5 with fail
  go_cut [6, 7] (fun s6 s7 wx => ∃ (E : Option Addr) (f : Nat), s6 = .slice E X0.length f ∧ s7 = .int .i64 v1 ∧ OwnC wx w1.heap.size wx.heap.size E f X0 ∧ Below w1.heap.size w1 wx)
  case first =>
    have C0 : Below w1.heap.size w1 w1.drew := (Below.refl _ _).drew
    have keepS : Hid (∀ W, Below w1.heap.size w1 W → (fun w' : World => w'.cell? ⟨w.heap.size, 0, none⟩ = some (.int .i64 x1) ∧ w'.cell? ⟨w.heap.size, 1, none⟩ = some (.int .i64 y1) ∧ w'.cell? ⟨w.heap.size, 2, none⟩ = some (.int .i64 z1)) W) := hide (fun W hW => ((q_1).below hW).three)
    go_region_held3 (fun w' => w'.cell? ⟨w.heap.size, 0, none⟩ = some (.int .i64 x1) ∧ w'.cell? ⟨w.heap.size, 1, none⟩ = some (.int .i64 y1) ∧ w'.cell? ⟨w.heap.size, 2, none⟩ = some (.int .i64 z1))
      (first | exact keepS.out _ C0 | exact keepS.out _ CC | exact keepS.out _ CA | exact keepS.out _ CB | fail)
      (first
        | (go_at_call 20; refine (toInt64SS_any _ _ xs0 _ _ ((r0_1).below (by first | exact CB | exact C0)) hn0).mono ?_; rintro e wa ⟨Ea, fa, rfl, ta, hba⟩; have CA := Below.trans (by first | exact CB | exact C0) (hba.mono (by first | exact CB.size | exact C0.size)))
        | (go_at_call 28; refine (toMove_any x1 y1 z1 _).mono ?_; rintro e wb ⟨rfl, hbb⟩; have CB := Below.trans (by first | exact CA | exact C0) (hbb.mono (by first | exact CA.size | exact C0.size)))
        | (go_at_call 39; refine (hspec.out _ _ _ _ (by first | exact (ta.below hbb).rd | exact ta.rd)).mono ?_; rintro e wz ⟨E, f, rfl, gg, hbc⟩; have CC := Below.trans (by first | exact CB | exact CA) (hbc.mono (by first | exact CB.size | exact CA.size)))
        | fail)
    all_goals go_wp2_with fail
    all_goals go_meet
    all_goals exact ⟨_, _, rfl, rfl, gg.mono (by first | exact CB.size | exact CA.size) (Nat.le_refl _), CC⟩
  case rest =>
    obtain ⟨w2, rfl⟩ : ∃ w2 : World, w2 = wc := ⟨_, rfl⟩
    obtain ⟨E2, f2, rfl, rfl, g0_2, hb2⟩ := hcut
    have r0_2 := (r0_1).below hb2
    have q_2 := (q_1).below hb2
    obtain ⟨qa_2, qb_2, qc_2⟩ := q_2.three
    clear qa_1 qb_1 qc_1
    have z_2 : w1.heap.size ≤ w2.heap.size := hb2.size
    have B_2 := (B_1).trans (hb2.mono (by omega))
    go_wp2_with fail
    refine (toInt64SS_any _ _ xs0 _ _ (r0_2) hn0).mono ?_
    rintro e w3 ⟨E3, f3, rfl, t0_1_3, hb3⟩
    have r0_3 := (r0_2).below hb3
    have q_3 := (q_2).below hb3
    obtain ⟨qa_3, qb_3, qc_3⟩ := q_3.three
    clear qa_2 qb_2 qc_2
    have g0_3 := (g0_2).below hb3
    have z_3 : w2.heap.size ≤ w3.heap.size := hb3.size
    have B_3 := (B_2).trans (hb3.mono (by omega))
    go_wp2_with fail
    refine (toMove_any x1 y1 z1 _).mono ?_
    rintro e w4 ⟨rfl, hb4⟩
    have r0_4 := (r0_3).below hb4
    have q_4 := (q_3).below hb4
    obtain ⟨qa_4, qb_4, qc_4⟩ := q_4.three
    clear qa_3 qb_3 qc_3
    have g0_4 := (g0_3).below hb4
    have t0_1_4 := (t0_1_3).below hb4
    have z_4 : w3.heap.size ≤ w4.heap.size := hb4.size
    have B_4 := (B_3).trans (hb4.mono (by omega))
    go_wp2_with fail
    refine (himpl.out _ _ _ _ ((t0_1_4).rd)).mono ?_
    rintro e w5 ⟨E5, f5, rfl, g2_5, hb5⟩
    have r0_5 := (r0_4).below hb5
    have q_5 := (q_4).below hb5
    obtain ⟨qa_5, qb_5, qc_5⟩ := q_5.three
    clear qa_4 qb_4 qc_4
    have g0_5 := (g0_4).below hb5
    have t0_1_5 := (t0_1_4).below hb5
    have z_5 : w4.heap.size ≤ w5.heap.size := hb5.size
    have B_5 := (B_4).trans (hb5.mono (by omega))
    go_wp2_with fail
    refine (eqInt64SS_any _ _ _ _ X0 X0 _ _ _ ((g2_5).rd) ((g0_5).rd) hX0 hX0).mono ?_
    rintro e w6 ⟨rfl, hb6⟩
    have r0_6 := (r0_5).below hb6
    have q_6 := (q_5).below hb6
    obtain ⟨qa_6, qb_6, qc_6⟩ := q_6.three
    clear qa_5 qb_5 qc_5
    have g0_6 := (g0_5).below hb6
    have t0_1_6 := (t0_1_5).below hb6
    have g2_6 := (g2_5).below hb6
    have z_6 : w5.heap.size ≤ w6.heap.size := hb6.size
    have B_6 := (B_5).trans (hb6.mono (by omega))
    go_wp2_with fail
    refine (toInt64SS_any _ _ xs0 _ _ (r0_6) hn0).mono ?_
    rintro e w7 ⟨E7, f7, rfl, t0_3_7, hb7⟩
    have r0_7 := (r0_6).below hb7
    have q_7 := (q_6).below hb7
    obtain ⟨qa_7, qb_7, qc_7⟩ := q_7.three
    clear qa_6 qb_6 qc_6
    have g0_7 := (g0_6).below hb7
    have t0_1_7 := (t0_1_6).below hb7
    have g2_7 := (g2_6).below hb7
    have z_7 : w6.heap.size ≤ w7.heap.size := hb7.size
    have B_7 := (B_6).trans (hb7.mono (by omega))
    go_wp2_with fail
    refine (eqInt64SS_any _ _ _ _ xs0 xs0 _ _ _ ((t0_1_7).rd) ((t0_3_7).rd) hn0 hn0).mono ?_
    rintro e w8 ⟨rfl, hb8⟩
    have r0_8 := (r0_7).below hb8
    have q_8 := (q_7).below hb8
    obtain ⟨qa_8, qb_8, qc_8⟩ := q_8.three
    clear qa_7 qb_7 qc_7
    have g0_8 := (g0_7).below hb8
    have t0_1_8 := (t0_1_7).below hb8
    have g2_8 := (g2_7).below hb8
    have t0_3_8 := (t0_3_7).below hb8
    have z_8 : w7.heap.size ≤ w8.heap.size := hb8.size
    have B_8 := (B_7).trans (hb8.mono (by omega))
    go_wp2_with fail
    refine (markInt64SS_any _ _ _ _ xs0 _ _ (t0_1_8) hn0 (by omega) (by omega)).mono ?_
    rintro e w9 ⟨rfl, t0_1_9, hM9⟩
    have r0_9 := (r0_8).marked hM9 (by omega) (by omega)
    have q_9 := (q_8).marked hM9 (.inl (by omega))
    obtain ⟨qa_9, qb_9, qc_9⟩ := q_9.three
    clear qa_8 qb_8 qc_8
    have g0_9 := (g0_8).marked hM9 (by omega) (by omega)
    have g2_9 := (g2_8).marked hM9 (by omega) (by omega)
    have t0_3_9 := (t0_3_8).marked hM9 (by omega) (by omega)
    have z_9 : w8.heap.size ≤ w9.heap.size := hM9.size
    have B_9 := Below.marked (B_8) hM9 (by omega) (by omega)
    have hq5 : ¬ (1 + ((sumLen xs0 : Nat) : Int) < 0) := by omega
    go_wp2_with fail
    refine (eqInt64SS_any _ _ _ _ X0 X0 _ _ _ ((g2_9).rd) ((g0_9).rd) hX0 hX0).mono ?_
    rintro e w10 ⟨rfl, hb10⟩
    have r0_10 := (r0_9).below hb10
    have q_10 := (q_9).below hb10
    obtain ⟨qa_10, qb_10, qc_10⟩ := q_10.three
    clear qa_9 qb_9 qc_9
    have g0_10 := (g0_9).below hb10
    have g2_10 := (g2_9).below hb10
    have t0_3_10 := (t0_3_9).below hb10
    have z_10 : w9.heap.size ≤ w10.heap.size := hb10.size
    have B_10 := (B_9).trans (hb10.mono (by omega))
    go_wp2_with fail
    refine (markInt64SS_any _ _ _ _ X0 _ _ (g2_10) hX0 (by omega) (by omega)).mono ?_
    rintro e w11 ⟨rfl, g2_11, hM11⟩
    have r0_11 := (r0_10).marked hM11 (by omega) (by omega)
    have q_11 := (q_10).marked hM11 (.inl (by omega))
    obtain ⟨qa_11, qb_11, qc_11⟩ := q_11.three
    clear qa_10 qb_10 qc_10
    have g0_11 := (g0_10).marked hM11 (by omega) (by omega)
    have t0_3_11 := (t0_3_10).marked hM11 (by omega) (by omega)
    have z_11 : w10.heap.size ≤ w11.heap.size := hM11.size
    have B_11 := Below.marked (B_10) hM11 (by omega) (by omega)
    go_wp2_with fail
    refine (heldInt64SS_any _ _ _ X0 _ _ ((g2_11).rd) hX0 (by omega) (by omega)).mono ?_
    rintro e w12 ⟨rfl, hb12⟩
    have r0_12 := (r0_11).below hb12
    have q_12 := (q_11).below hb12
    obtain ⟨qa_12, qb_12, qc_12⟩ := q_12.three
    clear qa_11 qb_11 qc_11
    have g0_12 := (g0_11).below hb12
    have g2_12 := (g2_11).below hb12
    have t0_3_12 := (t0_3_11).below hb12
    have z_12 : w11.heap.size ≤ w12.heap.size := hb12.size
    have B_12 := (B_11).trans (hb12.mono (by omega))
    have hq6 : ¬ (1 + ((sumLen X0 : Nat) : Int) < 0) := by omega
    have hq7 : (1 + ((sumLen X0 : Nat) : Int) != 1 + ((sumLen X0 : Nat) : Int)) = false := by simp
    go_upto_region 24 with fail
    go_cut [14, 15] (fun s14 s15 wx => ∃ (E : Option Addr) (f : Nat), s14 = .slice E X0.length f ∧ s15 = .int .i64 v1 ∧ OwnC wx w12.heap.size wx.heap.size E f X0 ∧ Below w12.heap.size w12 wx)
    case first =>
      have C0 : Below w12.heap.size w12 w12.drew := (Below.refl _ _).drew
      have keepS : Hid (∀ W, Below w12.heap.size w12 W → (fun w' : World => w'.cell? ⟨w.heap.size, 0, none⟩ = some (.int .i64 x1) ∧ w'.cell? ⟨w.heap.size, 1, none⟩ = some (.int .i64 y1) ∧ w'.cell? ⟨w.heap.size, 2, none⟩ = some (.int .i64 z1)) W) := hide (fun W hW => ((q_12).below hW).three)
      go_region_held3 (fun w' => w'.cell? ⟨w.heap.size, 0, none⟩ = some (.int .i64 x1) ∧ w'.cell? ⟨w.heap.size, 1, none⟩ = some (.int .i64 y1) ∧ w'.cell? ⟨w.heap.size, 2, none⟩ = some (.int .i64 z1))
        (first | exact keepS.out _ C0 | exact keepS.out _ CC | exact keepS.out _ CA | exact keepS.out _ CB | fail)
        (first
          | (go_at_call 20; refine (toInt64SS_any _ _ xs0 _ _ ((r0_12).below (by first | exact CB | exact C0)) hn0).mono ?_; rintro e wa ⟨Ea, fa, rfl, ta, hba⟩; have CA := Below.trans (by first | exact CB | exact C0) (hba.mono (by first | exact CB.size | exact C0.size)))
          | (go_at_call 28; refine (toMove_any x1 y1 z1 _).mono ?_; rintro e wb ⟨rfl, hbb⟩; have CB := Below.trans (by first | exact CA | exact C0) (hbb.mono (by first | exact CA.size | exact C0.size)))
          | (go_at_call 40; refine (himpl.out _ _ _ _ (by first | exact (ta.below hbb).rd | exact ta.rd)).mono ?_; rintro e wz ⟨E, f, rfl, gg, hbc⟩; have CC := Below.trans (by first | exact CB | exact CA) (hbc.mono (by first | exact CB.size | exact CA.size)))
          | fail)
      all_goals go_wp2_with fail
      all_goals go_meet
      all_goals exact ⟨_, _, rfl, rfl, gg.mono (by first | exact CB.size | exact CA.size) (Nat.le_refl _), CC⟩
    case rest =>
      obtain ⟨w13, rfl⟩ : ∃ w13 : World, w13 = wc := ⟨_, rfl⟩
      obtain ⟨E13, f13, rfl, rfl, g7_13, hb13⟩ := hcut
      have r0_13 := (r0_12).below hb13
      have q_13 := (q_12).below hb13
      obtain ⟨qa_13, qb_13, qc_13⟩ := q_13.three
      clear qa_12 qb_12 qc_12
      have g0_13 := (g0_12).below hb13
      have g2_13 := (g2_12).below hb13
      have t0_3_13 := (t0_3_12).below hb13
      have z_13 : w12.heap.size ≤ w13.heap.size := hb13.size
      have B_13 := (B_12).trans (hb13.mono (by omega))
      go_wp2_with fail
      refine (eqInt64SS_any _ _ _ _ X0 X0 _ _ _ ((g7_13).rd) ((g0_13).rd) hX0 hX0).mono ?_
      rintro e w14 ⟨rfl, hb14⟩
      have r0_14 := (r0_13).below hb14
      have q_14 := (q_13).below hb14
      obtain ⟨qa_14, qb_14, qc_14⟩ := q_14.three
      clear qa_13 qb_13 qc_13
      have g0_14 := (g0_13).below hb14
      have g2_14 := (g2_13).below hb14
      have t0_3_14 := (t0_3_13).below hb14
      have g7_14 := (g7_13).below hb14
      have z_14 : w13.heap.size ≤ w14.heap.size := hb14.size
      have B_14 := (B_13).trans (hb14.mono (by omega))
      go_wp2_with fail
      refine (heldInt64SS_any _ _ _ X0 _ _ ((g2_14).rd) hX0 (by omega) (by omega)).mono ?_
      rintro e w15 ⟨rfl, hb15⟩
      have r0_15 := (r0_14).below hb15
      have q_15 := (q_14).below hb15
      obtain ⟨qa_15, qb_15, qc_15⟩ := q_15.three
      clear qa_14 qb_14 qc_14
      have g0_15 := (g0_14).below hb15
      have g2_15 := (g2_14).below hb15
      have t0_3_15 := (t0_3_14).below hb15
      have g7_15 := (g7_14).below hb15
      have z_15 : w14.heap.size ≤ w15.heap.size := hb15.size
      have B_15 := (B_14).trans (hb15.mono (by omega))
      have hq9 : ¬ (1 + ((sumLen X0 : Nat) : Int) < 0) := by omega
      have hq10 : (1 + ((sumLen X0 : Nat) : Int) != 1 + ((sumLen X0 : Nat) : Int)) = false := by simp
      go_wp2_with fail
      go_ret
      exact ⟨rfl, B_15⟩

theorem walk_ApplyMove_of (A0 : Option Addr) (c0 : Nat) (xs0 : List (List Int)) (x1 y1 z1 : Int) (w : World) (hx0 : ArgC w A0 c0 xs0)
    (h : (xs0.length + sumLen xs0) ≤ 1048576 → ∃ (X0 : List (List Int)) (v1 : Int), X0.length + sumLen X0 ≤ 1048576 ∧ (∀ (W : World) (B0 : Option Addr) (d0 T0 : Nat), RC W T0 B0 xs0 → Calls Try.prog 39 #[.slice B0 xs0.length d0, .agg #[.int .i64 x1, .int .i64 y1, .int .i64 z1]] W (RetCC W X0 v1)) ∧ (∀ (W : World) (B0 : Option Addr) (d0 T0 : Nat), RC W T0 B0 xs0 → Calls Try.prog 40 #[.slice B0 xs0.length d0, .agg #[.int .i64 x1, .int .i64 y1, .int .i64 z1]] W (RetCC W X0 v1))) :
    Calls Try.prog 9 #[.slice A0 xs0.length c0, .agg #[.int .i64 x1, .int .i64 y1, .int .i64 z1]] w fun e w' => e = .returned (.bool true) ∧ Below w.heap.size w w' := by
  by_cases hs : (xs0.length + sumLen xs0) ≤ 1048576
  · obtain ⟨X0, v1, hX0, h1, h2⟩ := h hs
    exact walk_ApplyMove_core A0 c0 xs0 x1 y1 z1 w hx0 hs X0 v1 hX0 h1 h2
  · exact walk_ApplyMove_big0 A0 c0 xs0 x1 y1 z1 w hx0 (by omega)

end Go.Proofs.Ytenbjfkmfcbdiaa
