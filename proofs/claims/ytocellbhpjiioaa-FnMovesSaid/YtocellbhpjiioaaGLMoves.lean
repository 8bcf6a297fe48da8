/-
  The walk of the law FnMoves. Conditions: none.
-/
import Derived.Test.YtocellbhpjiioaaPolyEqM
import Derived.Test.YtocellbhpjiioaaF6
import Derived.Test.YtocellbhpjiioaaMoveLaw
import Derived.Test.YtocellbhpjiioaaAppM
namespace Go.Proofs.Ytocellbhpjiioaa
open Go.RowKit
set_option linter.unusedVariables false

theorem loopsR_can {code : List (List Int)} {x : Int} (h : x ∈ (loopsR code).1) : (validC code && canB code (1, x, 0)) = true := by
  unfold loopsR at h
  split at h
  · rename_i hv
    rw [hv, loops_can hv h]
    rfl
  · cases h
theorem pairsR_can {code : List (List Int)} {r : List Int} (h : r ∈ (pairsR code).1) : ∃ a b : Int, r = [a, b] ∧ (validC code && canB code (2, a, b)) = true := by
  unfold pairsR at h
  split at h
  · rename_i hv
    obtain ⟨a, b, e, h2⟩ := pairs_can hv h
    exact ⟨a, b, e, by rw [hv, h2]; rfl⟩
  · cases h
set_option maxRecDepth 40000 in
set_option maxHeartbeats 16000000 in
theorem walk_LMoves (w : World) (A0 : Option Addr) (c0 : Nat) (xs0 : List Int) (hx0 : ArgB w A0 c0 xs0) :
    Calls Try.prog 3 #[.slice A0 xs0.length c0] w fun e w' => e = .returned (.bool true) ∧ Below w.heap.size w w' := by
  obtain ⟨hl, hm, hr, hb⟩ := hx0
  by_cases hlong : 4096 < xs0.length
  · have hd := decide_eq_true hlong
    go_enter Try.func3, Try.ntmps3
    go_wp2_with fail
    refine (f6big_any A0 xs0.length c0 w).mono ?_
    rintro e w1 ⟨rfl, rfl⟩
    rw [hd]
    go_wp2_with fail
    go_ret
    exact ⟨rfl, Below.refl _ _⟩
  · have hd := decide_eq_false hlong
    have hn0 : xs0.length ≤ 1048576 := by omega
    have HB := hide hb
    go_enter Try.func3, Try.ntmps3
    go_wp2_with fail
    refine (f6big_any A0 xs0.length c0 w).mono ?_
    rintro e w0 ⟨rfl, rfl⟩
    rw [hd]
    go_wp2_with fail
    refine (drawApplyMove_any A0 c0 xs0 w hr HB.out hn0).mono ?_
    rintro e w1 ⟨X, BX, dX, mx, my, mz, rfl, hXb, rX, hb1⟩
    have hXl := (hXb.len (by omega) (by omega)).2
    have a0_1 := (hr).below hb1
    have z_1 : w.heap.size ≤ w1.heap.size := hb1.size
    have B_1 := (Below.refl w.heap.size w).trans (hb1.mono (by first | omega | (simp; omega) | simp))
    clear hd hlong hl hm hb
    obtain ⟨ma_x1, mb_x1, mc_x1⟩ := (Bx.new_ w1 (w1.heap.size) 26 #[.int .i64 mx, .int .i64 my, .int .i64 mz] (by simp)).three
    obtain ⟨Y, v, hYv⟩ : ∃ Y v, applyR X (mx, my, mz) = (Y, v) := ⟨_, _, rfl⟩
    have hYl : Y.length + sumLen Y ≤ 1048576 := by have := applyR_len X (mx, my, mz) hXl; rw [hYv] at this; exact this
    have HIA : Hid (∀ (W : World) (T : Nat), RC W T BX X → Calls Try.prog 7 #[.slice BX X.length dX, .agg #[.int .i64 mx, .int .i64 my, .int .i64 mz]] W (RetCC W Y v)) := hide fun W T h => by
      have := implApply_any BX dX T X mx my mz W h hXl
      rw [hYv] at this
      exact this
    have HSA : Hid (∀ (W : World) (T : Nat), RC W T BX X → Calls Try.prog 8 #[.slice BX X.length dX, .agg #[.int .i64 mx, .int .i64 my, .int .i64 mz]] W (RetCC W Y v)) := hide fun W T h => by
      have := specApply_any BX dX T X mx my mz W h hXl
      rw [hYv] at this
      exact this
    have HYV := hide hYv
    clear hYv
    go_wp2_with fail
    refine (HIA.out _ _ ((rX).alloc (.cells #[.int .i64 mx, .int .i64 my, .int .i64 mz] 26)).rc).mono ?_
    rintro e w2 ⟨EY, fY, rfl, oY, hb2⟩
    have a0_2 := ((a0_1).alloc (.cells #[.int .i64 mx, .int .i64 my, .int .i64 mz] 26)).below hb2
    have rX_2 := ((rX).alloc (.cells #[.int .i64 mx, .int .i64 my, .int .i64 mz] 26)).below hb2
    have m_2 := (Bx.new_ w1 (w1.heap.size) 26 #[.int .i64 mx, .int .i64 my, .int .i64 mz] (by simp)).below hb2
    obtain ⟨ma_2, mb_2, mc_2⟩ := (m_2).three
    have z_2 : (w1.alloc (.cells #[.int .i64 mx, .int .i64 my, .int .i64 mz] 26)).heap.size ≤ w2.heap.size := hb2.size
    simp only [World.size_alloc] at z_2
    have B_2 := ((B_1).alloc (by first | omega | (simp; omega) | simp) (.cells #[.int .i64 mx, .int .i64 my, .int .i64 mz] 26)).trans (hb2.mono (by first | omega | (simp; omega) | simp))
    go_wp2_with fail
    refine (HSA.out _ _ (rX_2).rc).mono ?_
    rintro e w3 ⟨EZ, fZ, rfl, oZ, hb3⟩
    have a0_3 := (a0_2).below hb3
    have rX_3 := (rX_2).below hb3
    have m_3 := (m_2).below hb3
    obtain ⟨ma_3, mb_3, mc_3⟩ := (m_3).three
    have oY_3 := (oY).below hb3
    have z_3 : w2.heap.size ≤ w3.heap.size := hb3.size
    have B_3 := (B_2).trans (hb3.mono (by first | omega | (simp; omega) | simp))
    go_wp2_with fail
    refine (drawLoopMoves_any A0 c0 xs0 _ (a0_3) HB.out hn0).mono ?_
    rintro e w4 ⟨L, BL, dL, rfl, hLb, rL, hb4⟩
    have hLl := (hLb.len (by omega) (by omega)).2
    have a0_4 := (a0_3).below hb4
    have rX_4 := (rX_3).below hb4
    have m_4 := (m_3).below hb4
    obtain ⟨ma_4, mb_4, mc_4⟩ := (m_4).three
    have oY_4 := (oY_3).below hb4
    have oZ_4 := (oZ).below hb4
    have z_4 : w3.heap.size ≤ w4.heap.size := hb4.size
    have B_4 := (B_3).trans (hb4.mono (by first | omega | (simp; omega) | simp))
    obtain ⟨LO, vl, hLO⟩ : ∃ LO vl, loopsR L = (LO, vl) := ⟨_, _, rfl⟩
    have hLOl : LO.length ≤ 1048576 := by have := loopsR_len L hLl; rw [hLO] at this; exact this
    have HIL : Hid (∀ (W : World) (T : Nat), RC W T BL L → Calls Try.prog 10 #[.slice BL L.length dL] W (RetIC W LO vl)) := hide fun W T h => by
      have := implLoopMoves_any BL dL T L W h hLl
      rw [hLO] at this
      exact this
    have HSL : Hid (∀ (W : World) (T : Nat), RC W T BL L → Calls Try.prog 11 #[.slice BL L.length dL] W (RetIC W LO vl)) := hide fun W T h => by
      have := specLoopMoves_any BL dL T L W h hLl
      rw [hLO] at this
      exact this
    have HLC : Hid (∀ x ∈ LO, ∀ (W : World) (T : Nat), RC W T BL L → Calls Try.prog 19 #[.slice BL L.length dL, .agg #[.int .i64 1, .int .i64 x, .int .i64 0]] W (RetV W (.bool true))) := hide fun x hx W T h => by
      have := implCanMove_any BL dL T L 1 x 0 W h hLl
      rw [loopsR_can (code := L) (x := x) (by rw [hLO]; exact hx)] at this
      exact this
    clear hLO
    go_wp2_with fail
    refine (HIL.out _ _ (rL).rc).mono ?_
    rintro e w5 ⟨E5, f5, rfl, o5, hb5⟩
    have a0_5 := (a0_4).below hb5
    have rX_5 := (rX_4).below hb5
    have m_5 := (m_4).below hb5
    obtain ⟨ma_5, mb_5, mc_5⟩ := (m_5).three
    have oY_5 := (oY_4).below hb5
    have oZ_5 := (oZ_4).below hb5
    have rL_5 := (rL).below hb5
    have z_5 : w4.heap.size ≤ w5.heap.size := hb5.size
    have B_5 := (B_4).trans (hb5.mono (by first | omega | (simp; omega) | simp))
    go_wp2_with fail
    refine (HSL.out _ _ (rL_5).rc).mono ?_
    rintro e w6 ⟨E6, f6, rfl, o6, hb6⟩
    have a0_6 := (a0_5).below hb6
    have rX_6 := (rX_5).below hb6
    have m_6 := (m_5).below hb6
    obtain ⟨ma_6, mb_6, mc_6⟩ := (m_6).three
    have oY_6 := (oY_5).below hb6
    have oZ_6 := (oZ_5).below hb6
    have rL_6 := (rL_5).below hb6
    have o5_6 := (o5).below hb6
    have z_6 : w5.heap.size ≤ w6.heap.size := hb6.size
    have B_6 := (B_5).trans (hb6.mono (by first | omega | (simp; omega) | simp))
    go_wp2_with fail
    refine (drawPairMoves_any A0 c0 xs0 _ (a0_6) HB.out hn0).mono ?_
    rintro e w7 ⟨Q, BQ, dQ, rfl, hQb, rQ, hb7⟩
    have hQl := (hQb.len (by omega) (by omega)).2
    have a0_7 := (a0_6).below hb7
    have rX_7 := (rX_6).below hb7
    have m_7 := (m_6).below hb7
    obtain ⟨ma_7, mb_7, mc_7⟩ := (m_7).three
    have oY_7 := (oY_6).below hb7
    have oZ_7 := (oZ_6).below hb7
    have rL_7 := (rL_6).below hb7
    have o5_7 := (o5_6).below hb7
    have o6_7 := (o6).below hb7
    have z_7 : w6.heap.size ≤ w7.heap.size := hb7.size
    have B_7 := (B_6).trans (hb7.mono (by first | omega | (simp; omega) | simp))
    obtain ⟨PA, vp, hPA⟩ : ∃ PA vp, pairsR Q = (PA, vp) := ⟨_, _, rfl⟩
    have hPAl : PA.length + sumLen PA ≤ 1048576 := by have := pairsR_len Q; rw [hPA] at this; exact this
    have HIP : Hid (∀ (W : World) (T : Nat), RC W T BQ Q → Calls Try.prog 13 #[.slice BQ Q.length dQ] W (RetCC W PA vp)) := hide fun W T h => by
      have := implPairMoves_any BQ dQ T Q W h hQl
      rw [hPA] at this
      exact this
    have HSP : Hid (∀ (W : World) (T : Nat), RC W T BQ Q → Calls Try.prog 14 #[.slice BQ Q.length dQ] W (RetCC W PA vp)) := hide fun W T h => by
      have := specPairMoves_any BQ dQ T Q W h hQl
      rw [hPA] at this
      exact this
    have HPC : Hid (∀ r ∈ PA, ∃ x y : Int, r = [x, y] ∧ ∀ (W : World) (T : Nat), RC W T BQ Q → Calls Try.prog 19 #[.slice BQ Q.length dQ, .agg #[.int .i64 2, .int .i64 x, .int .i64 y]] W (RetV W (.bool true))) := hide fun r hr => by
      obtain ⟨x, y, e, h2⟩ := pairsR_can (code := Q) (r := r) (by rw [hPA]; exact hr)
      refine ⟨x, y, e, fun W T h => ?_⟩
      have := implCanMove_any BQ dQ T Q 2 x y W h hQl
      rw [h2] at this
      exact this
    clear hPA
    go_wp2_with fail
    refine (HIP.out _ _ (rQ).rc).mono ?_
    rintro e w8 ⟨E8, f8, rfl, o8, hb8⟩
    have a0_8 := (a0_7).below hb8
    have rX_8 := (rX_7).below hb8
    have m_8 := (m_7).below hb8
    obtain ⟨ma_8, mb_8, mc_8⟩ := (m_8).three
    have oY_8 := (oY_7).below hb8
    have oZ_8 := (oZ_7).below hb8
    have rL_8 := (rL_7).below hb8
    have o5_8 := (o5_7).below hb8
    have o6_8 := (o6_7).below hb8
    have rQ_8 := (rQ).below hb8
    have z_8 : w7.heap.size ≤ w8.heap.size := hb8.size
    have B_8 := (B_7).trans (hb8.mono (by first | omega | (simp; omega) | simp))
    go_wp2_with fail
    refine (HSP.out _ _ (rQ_8).rc).mono ?_
    rintro e w9 ⟨E9, f9, rfl, o9, hb9⟩
    have a0_9 := (a0_8).below hb9
    have rX_9 := (rX_8).below hb9
    have m_9 := (m_8).below hb9
    obtain ⟨ma_9, mb_9, mc_9⟩ := (m_9).three
    have oY_9 := (oY_8).below hb9
    have oZ_9 := (oZ_8).below hb9
    have rL_9 := (rL_8).below hb9
    have o5_9 := (o5_8).below hb9
    have o6_9 := (o6_8).below hb9
    have rQ_9 := (rQ_8).below hb9
    have o8_9 := (o8).below hb9
    have z_9 : w8.heap.size ≤ w9.heap.size := hb9.size
    have B_9 := (B_8).trans (hb9.mono (by first | omega | (simp; omega) | simp))
    go_wp2_with fail
    refine (drawCanMove_any A0 c0 xs0 _ (a0_9) HB.out hn0).mono ?_
    rintro e w10 ⟨C, BC, dC, cx, cy, cz, rfl, hCb, rC, hb10⟩
    have hCl := (hCb.len (by omega) (by omega)).2
    have a0_10 := (a0_9).below hb10
    have rX_10 := (rX_9).below hb10
    have m_10 := (m_9).below hb10
    obtain ⟨ma_10, mb_10, mc_10⟩ := (m_10).three
    have oY_10 := (oY_9).below hb10
    have oZ_10 := (oZ_9).below hb10
    have rL_10 := (rL_9).below hb10
    have o5_10 := (o5_9).below hb10
    have o6_10 := (o6_9).below hb10
    have rQ_10 := (rQ_9).below hb10
    have o8_10 := (o8_9).below hb10
    have o9_10 := (o9).below hb10
    have z_10 : w9.heap.size ≤ w10.heap.size := hb10.size
    have B_10 := (B_9).trans (hb10.mono (by first | omega | (simp; omega) | simp))
    obtain ⟨ma_x2, mb_x2, mc_x2⟩ := ((m_10).alloc (.cells #[.int .i64 cx, .int .i64 cy, .int .i64 cz] 26)).three
    obtain ⟨ua_x2, ub_x2, uc_x2⟩ := (Bx.new_ w10 (w10.heap.size) 26 #[.int .i64 cx, .int .i64 cy, .int .i64 cz] (by simp)).three
    have hXY1 : (v != v) = false := by simp
    have hXY2 : (vl != vl) = false := by simp
    have hXY3 : (vp != vp) = false := by simp
    obtain ⟨cu, hcu⟩ : ∃ cu, cu = (validC C && canB C (cx, cy, cz)) := ⟨_, rfl⟩
    have hcuu : (cu != cu) = false := by simp
    obtain ⟨cm, hcm⟩ : ∃ cm, cm = (validC X && canB X (mx, my, mz)) := ⟨_, rfl⟩
    have hcmv : (cm != (v == 0)) = false := by
      rw [hcm, applyR_can, HYV.out]
      by_cases hv0 : v = 0
      · rw [decide_eq_true hv0, hv0]; rfl
      · rw [decide_eq_false hv0, show (v == 0) = false by simpa using hv0]; rfl
    have hcmw : (cm == (v == 0)) = true := by
      cases cm <;> cases hv9 : (v == 0) <;> rw [hv9] at hcmv <;> simp at hcmv ⊢
    have hm0 : ∀ p : BelowOf (w10.alloc (.cells #[.int .i64 cx, .int .i64 cy, .int .i64 cz] 26)), p.w.cell? ⟨w1.heap.size, 0, none⟩ = some (.int .i64 mx) := fun p => ((((m_10).alloc (.cells #[.int .i64 cx, .int .i64 cy, .int .i64 cz] 26))).below p.h).three.1
    have hm1 : ∀ p : BelowOf (w10.alloc (.cells #[.int .i64 cx, .int .i64 cy, .int .i64 cz] 26)), p.w.cell? ⟨w1.heap.size, 1, none⟩ = some (.int .i64 my) := fun p => ((((m_10).alloc (.cells #[.int .i64 cx, .int .i64 cy, .int .i64 cz] 26))).below p.h).three.2.1
    have hm2 : ∀ p : BelowOf (w10.alloc (.cells #[.int .i64 cx, .int .i64 cy, .int .i64 cz] 26)), p.w.cell? ⟨w1.heap.size, 2, none⟩ = some (.int .i64 mz) := fun p => ((((m_10).alloc (.cells #[.int .i64 cx, .int .i64 cy, .int .i64 cz] 26))).below p.h).three.2.2
    have hu0 : ∀ p : BelowOf (w10.alloc (.cells #[.int .i64 cx, .int .i64 cy, .int .i64 cz] 26)), p.w.cell? ⟨w10.heap.size, 0, none⟩ = some (.int .i64 cx) := fun p => (((Bx.new_ w10 (w10.heap.size) 26 #[.int .i64 cx, .int .i64 cy, .int .i64 cz] (by simp))).below p.h).three.1
    have hu1 : ∀ p : BelowOf (w10.alloc (.cells #[.int .i64 cx, .int .i64 cy, .int .i64 cz] 26)), p.w.cell? ⟨w10.heap.size, 1, none⟩ = some (.int .i64 cy) := fun p => (((Bx.new_ w10 (w10.heap.size) 26 #[.int .i64 cx, .int .i64 cy, .int .i64 cz] (by simp))).below p.h).three.2.1
    have hu2 : ∀ p : BelowOf (w10.alloc (.cells #[.int .i64 cx, .int .i64 cy, .int .i64 cz] 26)), p.w.cell? ⟨w10.heap.size, 2, none⟩ = some (.int .i64 cz) := fun p => (((Bx.new_ w10 (w10.heap.size) 26 #[.int .i64 cx, .int .i64 cy, .int .i64 cz] (by simp))).below p.h).three.2.2
    have HC1 : ∀ p : BelowOf (w10.alloc (.cells #[.int .i64 cx, .int .i64 cy, .int .i64 cz] 26)), Calls Try.prog 16 #[.slice EY Y.length fY, .slice EZ Y.length fZ] p.w (RetV p.w (.bool true)) := fun p => RetQ.v (sameCode_same _ _ _ _ _ _ Y p.w ((((oY_10).alloc (.cells #[.int .i64 cx, .int .i64 cy, .int .i64 cz] 26))).below p.h).rd ((((oZ_10).alloc (.cells #[.int .i64 cx, .int .i64 cy, .int .i64 cz] 26))).below p.h).rd hYl)
    have HC2 : ∀ p : BelowOf (w10.alloc (.cells #[.int .i64 cx, .int .i64 cy, .int .i64 cz] 26)), Calls Try.prog 17 #[.slice E5 LO.length f5, .slice E6 LO.length f6] p.w (RetV p.w (.bool true)) := fun p => RetQ.v (f6ints_same _ _ _ _ LO p.w ((((o5_10).alloc (.cells #[.int .i64 cx, .int .i64 cy, .int .i64 cz] 26))).below p.h).rd ((((o6_10).alloc (.cells #[.int .i64 cx, .int .i64 cy, .int .i64 cz] 26))).below p.h).rd hLOl)
    have HC3 : ∀ p : BelowOf (w10.alloc (.cells #[.int .i64 cx, .int .i64 cy, .int .i64 cz] 26)), Calls Try.prog 18 #[.slice E8 PA.length f8, .slice E9 PA.length f9] p.w (RetV p.w (.bool true)) := fun p => RetQ.v (f6lists_same _ _ _ _ _ _ PA p.w ((((o8_10).alloc (.cells #[.int .i64 cx, .int .i64 cy, .int .i64 cz] 26))).below p.h).rd ((((o9_10).alloc (.cells #[.int .i64 cx, .int .i64 cy, .int .i64 cz] 26))).below p.h).rd hPAl)
    have HC4 : ∀ p : BelowOf (w10.alloc (.cells #[.int .i64 cx, .int .i64 cy, .int .i64 cz] 26)), Calls Try.prog 19 #[.slice BC C.length dC, .agg #[.int .i64 cx, .int .i64 cy, .int .i64 cz]] p.w (RetV p.w (.bool cu)) := fun p => by rw [hcu]; exact implCanMove_any BC dC _ C cx cy cz p.w ((((rC).alloc (.cells #[.int .i64 cx, .int .i64 cy, .int .i64 cz] 26))).below p.h).rc hCl
    have HC5 : ∀ p : BelowOf (w10.alloc (.cells #[.int .i64 cx, .int .i64 cy, .int .i64 cz] 26)), Calls Try.prog 20 #[.slice BC C.length dC, .agg #[.int .i64 cx, .int .i64 cy, .int .i64 cz]] p.w (RetV p.w (.bool cu)) := fun p => by rw [hcu]; exact specCanMove_any BC dC _ C cx cy cz p.w ((((rC).alloc (.cells #[.int .i64 cx, .int .i64 cy, .int .i64 cz] 26))).below p.h).rc hCl
    have HC6 : ∀ p : BelowOf (w10.alloc (.cells #[.int .i64 cx, .int .i64 cy, .int .i64 cz] 26)), Calls Try.prog 19 #[.slice BX X.length dX, .agg #[.int .i64 mx, .int .i64 my, .int .i64 mz]] p.w (RetV p.w (.bool cm)) := fun p => by rw [hcm]; exact implCanMove_any BX dX _ X mx my mz p.w ((((rX_10).alloc (.cells #[.int .i64 cx, .int .i64 cy, .int .i64 cz] 26))).below p.h).rc hXl
    have C0 : Below ((w10.alloc (.cells #[.int .i64 cx, .int .i64 cy, .int .i64 cz] 26))).heap.size (w10.alloc (.cells #[.int .i64 cx, .int .i64 cy, .int .i64 cz] 26)) ((w10.alloc (.cells #[.int .i64 cx, .int .i64 cy, .int .i64 cz] 26))).drew := (Below.refl _ _).drew
    clear hcu hcm
    go_upto_region 13 with fail
    refine region_below (by kernel_rfl) (by kernel_rfl) C0 ?_
    repeat (go_big_quiet_step (first | (go_at_call 16; exact BelowOf.ret (HC1 _)) | (go_at_call 17; exact BelowOf.ret (HC2 _)) | (go_at_call 18; exact BelowOf.ret (HC3 _)) | (go_at_call_of 19 (Value.slice BC C.length dC); exact BelowOf.ret (HC4 _)) | (go_at_call 20; exact BelowOf.ret (HC5 _)) | (go_at_call_of 19 (Value.slice BX X.length dX); exact BelowOf.ret (HC6 _)) | fail))
    refine wpQuiet_nil ?_
    rintro w14 ⟨⟨w14, hb14⟩, rfl⟩
    have a0_14 := ((a0_10).alloc (.cells #[.int .i64 cx, .int .i64 cy, .int .i64 cz] 26)).below hb14
    have rX_14 := ((rX_10).alloc (.cells #[.int .i64 cx, .int .i64 cy, .int .i64 cz] 26)).below hb14
    have m_14 := ((m_10).alloc (.cells #[.int .i64 cx, .int .i64 cy, .int .i64 cz] 26)).below hb14
    obtain ⟨ma_14, mb_14, mc_14⟩ := (m_14).three
    have oY_14 := ((oY_10).alloc (.cells #[.int .i64 cx, .int .i64 cy, .int .i64 cz] 26)).below hb14
    have oZ_14 := ((oZ_10).alloc (.cells #[.int .i64 cx, .int .i64 cy, .int .i64 cz] 26)).below hb14
    have rL_14 := ((rL_10).alloc (.cells #[.int .i64 cx, .int .i64 cy, .int .i64 cz] 26)).below hb14
    have o5_14 := ((o5_10).alloc (.cells #[.int .i64 cx, .int .i64 cy, .int .i64 cz] 26)).below hb14
    have o6_14 := ((o6_10).alloc (.cells #[.int .i64 cx, .int .i64 cy, .int .i64 cz] 26)).below hb14
    have rQ_14 := ((rQ_10).alloc (.cells #[.int .i64 cx, .int .i64 cy, .int .i64 cz] 26)).below hb14
    have o8_14 := ((o8_10).alloc (.cells #[.int .i64 cx, .int .i64 cy, .int .i64 cz] 26)).below hb14
    have o9_14 := ((o9_10).alloc (.cells #[.int .i64 cx, .int .i64 cy, .int .i64 cz] 26)).below hb14
    have rC_14 := ((rC).alloc (.cells #[.int .i64 cx, .int .i64 cy, .int .i64 cz] 26)).below hb14
    have u_14 := (Bx.new_ w10 (w10.heap.size) 26 #[.int .i64 cx, .int .i64 cy, .int .i64 cz] (by simp)).below hb14
    obtain ⟨ua_14, ub_14, uc_14⟩ := (u_14).three
    have z_14 : (w10.alloc (.cells #[.int .i64 cx, .int .i64 cy, .int .i64 cz] 26)).heap.size ≤ w14.heap.size := hb14.size
    simp only [World.size_alloc] at z_14
    have B_14 := ((B_10).alloc (by first | omega | (simp; omega) | simp) (.cells #[.int .i64 cx, .int .i64 cy, .int .i64 cz] 26)).trans (hb14.mono (by first | omega | (simp; omega) | simp))
    clear hm0 hm1 hm2 hu0 hu1 hu2 HC1 HC2 HC3 HC4 HC5 HC6 C0
    go_wp2_with fail
    go_loopw [21] (fun k wr => ∃ (i : Nat), i ≤ LO.length ∧ k = .int .i64 (i : Int) ∧ Below w14.heap.size w14 wr) (fun k _ => LO.length - (intOf k).toNat)
    case atStart => exact ⟨0, Nat.zero_le _, rfl, Below.refl _ _⟩
    case round =>
      obtain ⟨i, hi, rfl, hB⟩ := hrel
      by_cases hlt : i < LO.length
      · have hlti : (i : Int) < (LO.length : Int) := by omega
        obtain ⟨g, off, x, hE6, hgs, hx, hgc⟩ := (((o6_14)).below hB).rd.at_ hlt
        have HX := hide (HLC.out x (List.mem_of_getElem? hx) wr _ (((rL_14)).below hB).rc)
        subst hE6
        clear hx
        go_wp2_with fail
        refine HX.out.mono ?_
        rintro e w' ⟨rfl, hb'⟩
        have HBB := hide (hB.trans (hb'.mono hB.size))
        go_wp2_with fail
        go_roundw
        case rel => exact ⟨i + 1, by omega, by go_num, HBB.out⟩
        case measure => simp [intOf]; omega
      · have hlti : ¬ (i : Int) < (LO.length : Int) := by omega
        obtain ⟨w15, rfl⟩ : ∃ w15 : World, w15 = wr := ⟨_, rfl⟩
        have hb15 := hB
        have a0_15 := (a0_14).below hb15
        have rX_15 := (rX_14).below hb15
        have m_15 := (m_14).below hb15
        obtain ⟨ma_15, mb_15, mc_15⟩ := (m_15).three
        have oY_15 := (oY_14).below hb15
        have oZ_15 := (oZ_14).below hb15
        have rL_15 := (rL_14).below hb15
        have o5_15 := (o5_14).below hb15
        have o6_15 := (o6_14).below hb15
        have rQ_15 := (rQ_14).below hb15
        have o8_15 := (o8_14).below hb15
        have o9_15 := (o9_14).below hb15
        have rC_15 := (rC_14).below hb15
        have u_15 := (u_14).below hb15
        obtain ⟨ua_15, ub_15, uc_15⟩ := (u_15).three
        have z_15 : w14.heap.size ≤ w15.heap.size := hb15.size
        have B_15 := (B_14).trans (hb15.mono (by first | omega | (simp; omega) | simp))
        go_wp2_with fail
        go_loopw [22] (fun k wr => ∃ (i : Nat), i ≤ PA.length ∧ k = .int .i64 (i : Int) ∧ Below w15.heap.size w15 wr) (fun k _ => PA.length - (intOf k).toNat)
        case atStart => exact ⟨0, Nat.zero_le _, rfl, Below.refl _ _⟩
        case round =>
          obtain ⟨j, hj, rfl, hB2⟩ := hrel
          by_cases hlt2 : j < PA.length
          · have hltj : (j : Int) < (PA.length : Int) := by omega
            obtain ⟨g, BR, dR, r, hE9, _, _, hgs, hrr, hgc, _, oR, _⟩ := (((o9_15)).below hB2).row hlt2
            obtain ⟨x, y, hrxy, HCALL⟩ := HPC.out r (List.mem_of_getElem? hrr)
            subst hrxy
            obtain ⟨gR, x', hBR, _, hgRs, hx', hcx, _, _⟩ := oR.at_ (k := 0) (by simp)
            obtain ⟨gR2, y', hBR2, _, _, hy', hcy, _, _⟩ := oR.at_ (k := 1) (by simp)
            rw [hBR] at hBR2
            injection hBR2 with hBR2
            injection hBR2 with hBR2
            subst hBR2
            obtain rfl : x' = x := by simpa using hx'.symm
            obtain rfl : y' = y := by simpa using hy'.symm
            subst hE9 hBR
            have hc0 : ∀ p : BelowOf wr, p.w.cell? ⟨g, j, none⟩ = some (.slice (some ⟨gR, 0, none⟩) 2 dR) := fun p => (p.h.cell (p := ⟨g, j, none⟩) hgs).trans hgc
            have hc1 : ∀ p : BelowOf wr, p.w.cell? ⟨gR, 0, none⟩ = some (.int .i64 x') := fun p => (p.h.cell (p := ⟨gR, 0, none⟩) hgRs).trans hcx
            have hc2 : ∀ p : BelowOf wr, p.w.cell? ⟨gR, 1, none⟩ = some (.int .i64 y') := fun p => (p.h.cell (p := ⟨gR, 1, none⟩) hgRs).trans hcy
            have HRX : ∀ p : BelowOf wr, Calls Try.prog 19 #[.slice BQ Q.length dQ, .agg #[.int .i64 2, .int .i64 x', .int .i64 y']] p.w (RetV p.w (.bool true)) := fun p => HCALL p.w _ ((((rQ_15)).below hB2).below p.h).rc
            have C0 : Below wr.heap.size wr wr.drew := (Below.refl _ _).drew
            clear hrr hx' hy' oR HCALL
            go_wp2_with fail
            refine region_below (by kernel_rfl) (by kernel_rfl) C0 ?_
            repeat (go_big_quiet_step (first | (go_at_call 19; exact BelowOf.ret (HRX _)) | fail))
            refine wpQuiet_nil ?_
            rintro wz ⟨⟨wz, CE⟩, rfl⟩
            have HBB := hide (hB2.trans (CE.mono hB2.size))
            clear hc0 hc1 hc2 HRX C0
            go_wp2_with fail
            go_roundw
            case rel => exact ⟨j + 1, by omega, by go_num, HBB.out⟩
            case measure => simp [intOf]; omega
          · have hltj : ¬ (j : Int) < (PA.length : Int) := by omega
            obtain ⟨w16, rfl⟩ : ∃ w16 : World, w16 = wr := ⟨_, rfl⟩
            have hb16 := hB2
            have a0_16 := (a0_15).below hb16
            have rX_16 := (rX_15).below hb16
            have m_16 := (m_15).below hb16
            obtain ⟨ma_16, mb_16, mc_16⟩ := (m_16).three
            have oY_16 := (oY_15).below hb16
            have oZ_16 := (oZ_15).below hb16
            have rL_16 := (rL_15).below hb16
            have o5_16 := (o5_15).below hb16
            have o6_16 := (o6_15).below hb16
            have rQ_16 := (rQ_15).below hb16
            have o8_16 := (o8_15).below hb16
            have o9_16 := (o9_15).below hb16
            have rC_16 := (rC_15).below hb16
            have u_16 := (u_15).below hb16
            obtain ⟨ua_16, ub_16, uc_16⟩ := (u_16).three
            have z_16 : w15.heap.size ≤ w16.heap.size := hb16.size
            have B_16 := (B_15).trans (hb16.mono (by first | omega | (simp; omega) | simp))
            by_cases hv0 : v = 0
            · subst hv0
              obtain ⟨a1, a2, a3⟩ := applyR_ok (code := X) (m := (mx, my, mz)) (by rw [HYV.out])
              rw [HYV.out] at a3
              dsimp only at a3
              obtain ⟨q1, q2⟩ := doM_count a1 a2
              have hvY : validC Y = true := by rw [a3]; exact doM_valid _ a1
              have hlen : Y.length = X.length := by rw [a3]; exact (withoutC_len _ _).1
              rw [← a3] at q1
              obtain ⟨N, hN⟩ : ∃ N, N = sumLen X / 2 := ⟨_, rfl⟩
              obtain ⟨M, hM⟩ : ∃ M, M = sumLen Y / 2 := ⟨_, rfl⟩
              have hN120 : N ≤ 120 := by rw [hN]; exact (valid_sum a1).2.2
              have hMN : IntKind.i64.wrap ((N : Int) - mx) = (M : Int) := by rw [IntKind.wrap_i64]; omega
              have HCX : Hid (∀ (W : World) (T : Nat), RC W T BX X → Calls Try.prog 21 #[.slice BX X.length dX] W (RetV W (.tuple #[.int .i64 (N : Int), .int .i64 0]))) := hide fun W T h => by
                have := implCountCoded_any BX dX T X W h hXl
                unfold countR at this
                rw [if_pos a1, ← hN] at this
                exact this
              have HCY : Hid (∀ (W : World) (T : Nat), RC W T EY Y → Calls Try.prog 21 #[.slice EY Y.length fY] W (RetV W (.tuple #[.int .i64 (M : Int), .int .i64 0]))) := hide fun W T h => by
                have := implCountCoded_any EY fY T Y W h hYl
                unfold countR at this
                rw [if_pos hvY, ← hM] at this
                exact this
              have HVY : Hid (∀ (W : World) (T : Nat), RC W T EY Y → Calls Try.prog 22 #[.slice EY Y.length fY] W (RetV W (.bool true))) := hide fun W T h => by
                have := validCode_any EY fY T Y W h hYl
                rw [hvY] at this
                exact this
              have hle : ((Y.length : Int) == (X.length : Int)) = true := by rw [hlen]; simp
              have hmm : ((M : Int) == (M : Int)) = true := by simp
              clear a1 a2 a3 q1 q2 hvY hlen hN hM hN120
              obtain ⟨ma_x3, mb_x3, mc_x3⟩ := (m_16).three
              go_wp2_with fail
              refine (HCX.out _ _ ((rX_16)).rc).mono ?_
              rintro e w17 ⟨rfl, hb17⟩
              have a0_17 := (a0_16).below hb17
              have rX_17 := (rX_16).below hb17
              have m_17 := (m_16).below hb17
              obtain ⟨ma_17, mb_17, mc_17⟩ := (m_17).three
              have oY_17 := (oY_16).below hb17
              have oZ_17 := (oZ_16).below hb17
              have rL_17 := (rL_16).below hb17
              have o5_17 := (o5_16).below hb17
              have o6_17 := (o6_16).below hb17
              have rQ_17 := (rQ_16).below hb17
              have o8_17 := (o8_16).below hb17
              have o9_17 := (o9_16).below hb17
              have rC_17 := (rC_16).below hb17
              have u_17 := (u_16).below hb17
              obtain ⟨ua_17, ub_17, uc_17⟩ := (u_17).three
              have z_17 : w16.heap.size ≤ w17.heap.size := hb17.size
              have B_17 := (B_16).trans (hb17.mono (by first | omega | (simp; omega) | simp))
              go_wp2_with fail
              refine (HCY.out _ _ ((oY_17)).rd).mono ?_
              rintro e w18 ⟨rfl, hb18⟩
              have a0_18 := (a0_17).below hb18
              have rX_18 := (rX_17).below hb18
              have m_18 := (m_17).below hb18
              obtain ⟨ma_18, mb_18, mc_18⟩ := (m_18).three
              have oY_18 := (oY_17).below hb18
              have oZ_18 := (oZ_17).below hb18
              have rL_18 := (rL_17).below hb18
              have o5_18 := (o5_17).below hb18
              have o6_18 := (o6_17).below hb18
              have rQ_18 := (rQ_17).below hb18
              have o8_18 := (o8_17).below hb18
              have o9_18 := (o9_17).below hb18
              have rC_18 := (rC_17).below hb18
              have u_18 := (u_17).below hb18
              obtain ⟨ua_18, ub_18, uc_18⟩ := (u_18).three
              have z_18 : w17.heap.size ≤ w18.heap.size := hb18.size
              have B_18 := (B_17).trans (hb18.mono (by first | omega | (simp; omega) | simp))
              obtain ⟨ma_x4, mb_x4, mc_x4⟩ := (m_18).three
              go_wp2_with fail
              refine (HVY.out _ _ ((oY_18)).rd).mono ?_
              rintro e w19 ⟨rfl, hb19⟩
              have a0_19 := (a0_18).below hb19
              have rX_19 := (rX_18).below hb19
              have m_19 := (m_18).below hb19
              obtain ⟨ma_19, mb_19, mc_19⟩ := (m_19).three
              have oY_19 := (oY_18).below hb19
              have oZ_19 := (oZ_18).below hb19
              have rL_19 := (rL_18).below hb19
              have o5_19 := (o5_18).below hb19
              have o6_19 := (o6_18).below hb19
              have rQ_19 := (rQ_18).below hb19
              have o8_19 := (o8_18).below hb19
              have o9_19 := (o9_18).below hb19
              have rC_19 := (rC_18).below hb19
              have u_19 := (u_18).below hb19
              obtain ⟨ua_19, ub_19, uc_19⟩ := (u_19).three
              have z_19 : w18.heap.size ≤ w19.heap.size := hb19.size
              have B_19 := (B_18).trans (hb19.mono (by first | omega | (simp; omega) | simp))
              go_wp2_with fail
              go_ret
              exact ⟨by simp, (B_19)⟩
            · have hv1 : (v != 0) = true := by simpa using hv0
              go_wp2_with fail
              go_ret
              exact ⟨rfl, (B_16)⟩
end Go.Proofs.Ytocellbhpjiioaa
