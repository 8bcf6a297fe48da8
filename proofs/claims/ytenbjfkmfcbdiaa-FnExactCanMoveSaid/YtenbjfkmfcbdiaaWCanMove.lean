/-
  The core of the walk of the law FnExactCanMove: the law answers true wherever the two functions hand back the same. Conditions: the two functions' contracts, given as hypotheses.
-/
import Derived.Test.YtenbjfkmfcbdiaaOpenC
import Derived.Test.YtenbjfkmfcbdiaaRet
import Derived.Test.YtenbjfkmfcbdiaaApply
namespace Go.Proofs.Ytenbjfkmfcbdiaa
open Go.RowKit
set_option linter.unusedVariables false

set_option maxHeartbeats 1000000 in
theorem walk_CanMove_big0 (A0 : Option Addr) (c0 : Nat) (xs0 : List (List Int)) (x1 y1 z1 : Int) (w : World) (hx0 : ArgC w A0 c0 xs0)  (hno : 1048576 < (xs0.length + sumLen xs0)) :
    Calls Try.prog 5 #[.slice A0 xs0.length c0, .agg #[.int .i64 x1, .int .i64 y1, .int .i64 z1]] w fun e w' => e = .returned (.bool true) ∧ Below w.heap.size w w' := by
  obtain ⟨hl0, hm0, hr0, hi0⟩ := hx0
  have q0 : Bx (w.alloc (.cells #[.int .i64 x1, .int .i64 y1, .int .i64 z1] 40)) w.heap.size 40 #[.int .i64 x1, .int .i64 y1, .int .i64 z1] := Bx.new _ _ _
  go_enter Try.func5, Try.ntmps5
  have k0 : (1048576 : Int) < (((xs0.length + sumLen xs0) : Nat) : Int) := by omega
  go_wp2_with fail
  refine (szInt64SS_no _ _ _ _ _ _ ((hr0).alloc (.cells #[.int .i64 x1, .int .i64 y1, .int .i64 z1] 40)) (by omega) (by omega) k0 (by omega)).mono ?_
  rintro e w1 ⟨rfl, hb1⟩
  have r0_1 := ((hr0).alloc (.cells #[.int .i64 x1, .int .i64 y1, .int .i64 z1] 40)).below hb1
  have q_1 := (q0).below hb1
  obtain ⟨qa_1, qb_1, qc_1⟩ := q_1.three
  have z_1 : w.heap.size < w1.heap.size := Nat.lt_of_lt_of_le (by simp) hb1.size
  have B_1 := ((Below.refl w.heap.size w).alloc (Nat.le_refl _) (.cells #[.int .i64 x1, .int .i64 y1, .int .i64 z1] 40)).trans (hb1.mono (by simp))
  go_wp2_with fail
  go_ret
  exact ⟨rfl, B_1⟩

set_option maxRecDepth 20000 in
set_option maxHeartbeats 4000000 in
theorem walk_CanMove_core (A0 : Option Addr) (c0 : Nat) (xs0 : List (List Int)) (x1 y1 z1 : Int) (w : World) (hx0 : ArgC w A0 c0 xs0) (hsm : (xs0.length + sumLen xs0) ≤ 1048576) (v0 : Bool) 
    (hspec0 : ∀ (W : World) (B0 : Option Addr) (d0 T0 : Nat), RC W T0 B0 xs0 → Calls Try.prog 27 #[.slice B0 xs0.length d0, .agg #[.int .i64 x1, .int .i64 y1, .int .i64 z1]] W (RetV W (.bool v0)))
    (himpl0 : ∀ (W : World) (B0 : Option Addr) (d0 T0 : Nat), RC W T0 B0 xs0 → Calls Try.prog 29 #[.slice B0 xs0.length d0, .agg #[.int .i64 x1, .int .i64 y1, .int .i64 z1]] W (RetV W (.bool v0))) :
    Calls Try.prog 5 #[.slice A0 xs0.length c0, .agg #[.int .i64 x1, .int .i64 y1, .int .i64 z1]] w fun e w' => e = .returned (.bool true) ∧ Below w.heap.size w w' := by
  obtain ⟨hl0, hm0, hr0, hi0⟩ := hx0
  have q0 : Bx (w.alloc (.cells #[.int .i64 x1, .int .i64 y1, .int .i64 z1] 40)) w.heap.size 40 #[.int .i64 x1, .int .i64 y1, .int .i64 z1] := Bx.new _ _ _
  have hspec := hide hspec0; have himpl := hide himpl0; clear hspec0 himpl0
  have hn0 : (xs0.length + sumLen xs0) ≤ 1048576 := by omega
  have hv0 : (v0 != v0) = false := by simp
  go_enter Try.func5, Try.ntmps5
  have k_0 : (((xs0.length + sumLen xs0) : Nat) : Int) ≤ 1048576 := by omega
  go_wp2_with fail
  refine (szInt64SS_ok _ _ _ _ _ _ ((hr0).alloc (.cells #[.int .i64 x1, .int .i64 y1, .int .i64 z1] 40)) k_0 (by omega)).mono ?_
  rintro e w1 ⟨rfl, hb1⟩
  have r0_1 := ((hr0).alloc (.cells #[.int .i64 x1, .int .i64 y1, .int .i64 z1] 40)).below hb1
  have q_1 := (q0).below hb1
  obtain ⟨qa_1, qb_1, qc_1⟩ := q_1.three
  have z_1 : w.heap.size < w1.heap.size := Nat.lt_of_lt_of_le (by simp) hb1.size
  have B_1 := ((Below.refl w.heap.size w).alloc (Nat.le_refl _) (.cells #[.int .i64 x1, .int .i64 y1, .int .i64 z1] 40)).trans (hb1.mono (by simp))
  have kk_0 : ¬ (1048576 - (((xs0.length + sumLen xs0) : Nat) : Int) < 0) := by omega
  go_upto_region 5 with fail
  go_cut [6] (fun s6 wx => s6 = .bool v0 ∧ Below w1.heap.size w1 wx)
  case first =>
    have C0 : Below w1.heap.size w1 w1.drew := (Below.refl _ _).drew
    have keepS : Hid (∀ W, Below w1.heap.size w1 W → (fun w' : World => w'.cell? ⟨w.heap.size, 0, none⟩ = some (.int .i64 x1) ∧ w'.cell? ⟨w.heap.size, 1, none⟩ = some (.int .i64 y1) ∧ w'.cell? ⟨w.heap.size, 2, none⟩ = some (.int .i64 z1)) W) := hide (fun W hW => ((q_1).below hW).three)
    go_region_held3 (fun w' => w'.cell? ⟨w.heap.size, 0, none⟩ = some (.int .i64 x1) ∧ w'.cell? ⟨w.heap.size, 1, none⟩ = some (.int .i64 y1) ∧ w'.cell? ⟨w.heap.size, 2, none⟩ = some (.int .i64 z1))
      (first | exact keepS.out _ C0 | exact keepS.out _ CC | exact keepS.out _ CA | exact keepS.out _ CB | fail)
      (first
        | (go_at_call 20; refine (toInt64SS_any _ _ xs0 _ _ ((r0_1).below (by first | exact CB | exact C0)) hn0).mono ?_; rintro e wa ⟨Ea, fa, rfl, ta, hba⟩; have CA := Below.trans (by first | exact CB | exact C0) (hba.mono (by first | exact CB.size | exact C0.size)))
        | (go_at_call 28; refine (toMove_any x1 y1 z1 _).mono ?_; rintro e wb ⟨rfl, hbb⟩; have CB := Below.trans (by first | exact CA | exact C0) (hbb.mono (by first | exact CA.size | exact C0.size)))
        | (go_at_call 27; refine (hspec.out _ _ _ _ (by first | exact (ta.below hbb).rd | exact ta.rd)).mono ?_; rintro e wz ⟨rfl, hbc⟩; have CC := Below.trans (by first | exact CB | exact CA) (hbc.mono (by first | exact CB.size | exact CA.size)))
        | fail)
    all_goals go_wp2_with fail
    all_goals go_meet
    all_goals exact ⟨rfl, CC⟩
  case rest =>
    obtain ⟨w2, rfl⟩ : ∃ w2 : World, w2 = wc := ⟨_, rfl⟩
    obtain ⟨rfl, hb2⟩ := hcut
    have r0_2 := (r0_1).below hb2
    have q_2 := (q_1).below hb2
    obtain ⟨qa_2, qb_2, qc_2⟩ := q_2.three
    clear qa_1 qb_1 qc_1
    have z_2 : w1.heap.size ≤ w2.heap.size := hb2.size
    have B_2 := (B_1).trans (hb2.mono (by omega))
    go_wp2_with fail
    refine (toInt64SS_any _ _ xs0 _ _ (r0_2) hn0).mono ?_
    rintro e w3 ⟨E3, f3, rfl, t0_1_3, hb3⟩
    have r0_3 := (r0_2).below hb3
    have q_3 := (q_2).below hb3
    obtain ⟨qa_3, qb_3, qc_3⟩ := q_3.three
    clear qa_2 qb_2 qc_2
    have z_3 : w2.heap.size ≤ w3.heap.size := hb3.size
    have B_3 := (B_2).trans (hb3.mono (by omega))
    go_wp2_with fail
    refine (toMove_any x1 y1 z1 _).mono ?_
    rintro e w4 ⟨rfl, hb4⟩
    have r0_4 := (r0_3).below hb4
    have q_4 := (q_3).below hb4
    obtain ⟨qa_4, qb_4, qc_4⟩ := q_4.three
    clear qa_3 qb_3 qc_3
    have t0_1_4 := (t0_1_3).below hb4
    have z_4 : w3.heap.size ≤ w4.heap.size := hb4.size
    have B_4 := (B_3).trans (hb4.mono (by omega))
    go_wp2_with fail
    refine (himpl.out _ _ _ _ ((t0_1_4).rd)).mono ?_
    rintro e w5 ⟨rfl, hb5⟩
    have r0_5 := (r0_4).below hb5
    have q_5 := (q_4).below hb5
    obtain ⟨qa_5, qb_5, qc_5⟩ := q_5.three
    clear qa_4 qb_4 qc_4
    have t0_1_5 := (t0_1_4).below hb5
    have z_5 : w4.heap.size ≤ w5.heap.size := hb5.size
    have B_5 := (B_4).trans (hb5.mono (by omega))
    go_wp2_with fail
    refine (toInt64SS_any _ _ xs0 _ _ (r0_5) hn0).mono ?_
    rintro e w6 ⟨E6, f6, rfl, t0_3_6, hb6⟩
    have r0_6 := (r0_5).below hb6
    have q_6 := (q_5).below hb6
    obtain ⟨qa_6, qb_6, qc_6⟩ := q_6.three
    clear qa_5 qb_5 qc_5
    have t0_1_6 := (t0_1_5).below hb6
    have z_6 : w5.heap.size ≤ w6.heap.size := hb6.size
    have B_6 := (B_5).trans (hb6.mono (by omega))
    go_wp2_with fail
    refine (eqInt64SS_any _ _ _ _ xs0 xs0 _ _ _ ((t0_1_6).rd) ((t0_3_6).rd) hn0 hn0).mono ?_
    rintro e w7 ⟨rfl, hb7⟩
    have r0_7 := (r0_6).below hb7
    have q_7 := (q_6).below hb7
    obtain ⟨qa_7, qb_7, qc_7⟩ := q_7.three
    clear qa_6 qb_6 qc_6
    have t0_1_7 := (t0_1_6).below hb7
    have t0_3_7 := (t0_3_6).below hb7
    have z_7 : w6.heap.size ≤ w7.heap.size := hb7.size
    have B_7 := (B_6).trans (hb7.mono (by omega))
    go_wp2_with fail
    go_ret
    exact ⟨rfl, B_7⟩

theorem walk_CanMove_of (A0 : Option Addr) (c0 : Nat) (xs0 : List (List Int)) (x1 y1 z1 : Int) (w : World) (hx0 : ArgC w A0 c0 xs0)
    (h : (xs0.length + sumLen xs0) ≤ 1048576 → ∃ (v0 : Bool), (∀ (W : World) (B0 : Option Addr) (d0 T0 : Nat), RC W T0 B0 xs0 → Calls Try.prog 27 #[.slice B0 xs0.length d0, .agg #[.int .i64 x1, .int .i64 y1, .int .i64 z1]] W (RetV W (.bool v0))) ∧ (∀ (W : World) (B0 : Option Addr) (d0 T0 : Nat), RC W T0 B0 xs0 → Calls Try.prog 29 #[.slice B0 xs0.length d0, .agg #[.int .i64 x1, .int .i64 y1, .int .i64 z1]] W (RetV W (.bool v0)))) :
    Calls Try.prog 5 #[.slice A0 xs0.length c0, .agg #[.int .i64 x1, .int .i64 y1, .int .i64 z1]] w fun e w' => e = .returned (.bool true) ∧ Below w.heap.size w w' := by
  by_cases hs : (xs0.length + sumLen xs0) ≤ 1048576
  · obtain ⟨v0, h1, h2⟩ := h hs
    exact walk_CanMove_core A0 c0 xs0 x1 y1 z1 w hx0 hs v0  h1 h2
  · exact walk_CanMove_big0 A0 c0 xs0 x1 y1 z1 w hx0 (by omega)

end Go.Proofs.Ytenbjfkmfcbdiaa
