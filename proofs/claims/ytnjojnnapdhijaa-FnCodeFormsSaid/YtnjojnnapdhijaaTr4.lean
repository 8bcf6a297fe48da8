/-
  Contract: one step of a walker, of the program. Conditions: a valid panel's sides and breaks, a walker of the panel.
-/
import Derived.Test.YtnjojnnapdhijaaTr3
namespace Go.Proofs.Ytnjojnnapdhijaa
open Go.RowKit
set_option linter.unusedVariables false
set_option maxHeartbeats 8000000 in
theorem step_any (wd ht : Int) (A : Option Addr) (c : Nat) (xs : List Int) (a : Wk) (w : World) (hxs : RI w A xs) (hs : Sz wd ht) (hl : (xs.length : Int) = innerN wd ht) (ha : OkW wd ht a) :
    Calls Try.prog 114 #[.agg #[.int .i64 wd, .int .i64 ht, .slice A xs.length c], .agg #[.int .i64 a.x, .int .i64 a.y, .int .i64 a.dx, .int .i64 a.dy]] w (fun e w' => ∃ t, e = .returned (.tuple #[.agg #[.int .i64 a.nx, .int .i64 a.ny, .int .i64 (stepW wd ht xs a).dx, .int .i64 (stepW wd ht xs a).dy], .bool t]) ∧ Below w.heap.size w w') := by
  obtain ⟨g1, g2, g3, g4, g5, g6⟩ := ha.bounds hs
  have hON := hide ha.2.2.2
  have hsz := hide hs
  have HX := hide (fun W => next_any wd ht a W hs ha)
  refine step_ways hs ha (fun u v => Calls Try.prog 114 #[.agg #[.int .i64 wd, .int .i64 ht, .slice A xs.length c], .agg #[.int .i64 a.x, .int .i64 a.y, .int .i64 a.dx, .int .i64 a.dy]] w (fun e w' => ∃ t, e = .returned (.tuple #[.agg #[.int .i64 a.nx, .int .i64 a.ny, .int .i64 u, .int .i64 v], .bool t]) ∧ Below w.heap.size w w')) ?_ ?_ ?_ ?_ ?_ ?_ ?_
  · intro h1 h3 h4 he
    have hkE := hide (inner_at (xs := xs) hsz.out hON.out)
    have hE := hide (edge_true he)
    clear hkE he ha
    obtain ⟨x, y, dx, dy⟩ := a
    simp only [Wk.nx, Wk.ny] at *
    generalize hX : x + dx = X at *
    generalize hY : y + dy = Y at *
    have HXY := hide (And.intro hX hY)
    clear hX hY
    have ex0 : (X == 0) = true := eqt (by omega)
    have dx0 := dec_of ex0
    have ey0 : (Y == 0) = false := eqf (by omega)
    have dy0 := dec_of ey0
    have ey2 : (Y == 2 * ht) = false := eqf (by omega)
    have dy2 := dec_of ey2
    clear h1 h3 h4
    obtain ⟨s1, s2, s3, s4⟩ := hsz.out
    have b1 : (-dx != dx) = true := by rcases g5 with rfl | rfl <;> rfl
    have b2 : (-dy != dy) = true := by rcases g6 with rfl | rfl <;> rfl
    have b3 : (dx != dx) = false := by simp
    have b4 : (dy != dy) = false := by simp
    obtain ⟨wka_x1, wkb_x1, wkc_x1, wkd_x1⟩ := ((Bx.new_ (w.alloc (.cells #[.int .i64 wd, .int .i64 ht, .slice A xs.length c] 36)) (w.heap.size + 1) 112 #[.int .i64 x, .int .i64 y, .int .i64 dx, .int .i64 dy] (by simp)).alloc (.cells #[.int .i64 0, .int .i64 0, .int .i64 0, .int .i64 0] 112)).four
    obtain ⟨pa_x1, pb_x1, pc_x1⟩ := (((Bx.new_ w (w.heap.size) 36 #[.int .i64 wd, .int .i64 ht, .slice A xs.length c] (by simp)).alloc (.cells #[.int .i64 x, .int .i64 y, .int .i64 dx, .int .i64 dy] 112)).alloc (.cells #[.int .i64 0, .int .i64 0, .int .i64 0, .int .i64 0] 112)).three
    go_enter Try.func114, Try.ntmps114
    go_wp2_with fail
    refine ((HX.out _)).mono ?_
    rintro e w1 ⟨rfl, hb1⟩
    have p_1 := (((Bx.new_ w (w.heap.size) 36 #[.int .i64 wd, .int .i64 ht, .slice A xs.length c] (by simp)).alloc (.cells #[.int .i64 x, .int .i64 y, .int .i64 dx, .int .i64 dy] 112)).alloc (.cells #[.int .i64 0, .int .i64 0, .int .i64 0, .int .i64 0] 112)).below hb1
    obtain ⟨pa_1, pb_1, pc_1⟩ := (p_1).three
    have wk_1 := ((Bx.new_ (w.alloc (.cells #[.int .i64 wd, .int .i64 ht, .slice A xs.length c] 36)) (w.heap.size + 1) 112 #[.int .i64 x, .int .i64 y, .int .i64 dx, .int .i64 dy] (by simp)).alloc (.cells #[.int .i64 0, .int .i64 0, .int .i64 0, .int .i64 0] 112)).below hb1
    obtain ⟨wka_1, wkb_1, wkc_1, wkd_1⟩ := (wk_1).four
    have r_1 := (Bx.new_ ((w.alloc (.cells #[.int .i64 wd, .int .i64 ht, .slice A xs.length c] 36)).alloc (.cells #[.int .i64 x, .int .i64 y, .int .i64 dx, .int .i64 dy] 112)) (w.heap.size + 1 + 1) 112 #[.int .i64 0, .int .i64 0, .int .i64 0, .int .i64 0] (by simp)).below hb1
    obtain ⟨ra_1, rb_1, rc_1, rd_1⟩ := (r_1).four
    have rf0_1 := (r_1).frozen 0
    have rf1_1 := (r_1).frozen 1
    have rf2_1 := (r_1).frozen 2
    have rf3_1 := (r_1).frozen 3
    have z_1 : (((w.alloc (.cells #[.int .i64 wd, .int .i64 ht, .slice A xs.length c] 36)).alloc (.cells #[.int .i64 x, .int .i64 y, .int .i64 dx, .int .i64 dy] 112)).alloc (.cells #[.int .i64 0, .int .i64 0, .int .i64 0, .int .i64 0] 112)).heap.size ≤ w1.heap.size := hb1.size
    simp only [World.size_alloc] at z_1
    have B_1 := ((((Below.refl w.heap.size w).alloc (by first | omega | (simp; omega) | simp) (.cells #[.int .i64 wd, .int .i64 ht, .slice A xs.length c] 36)).alloc (by first | omega | (simp; omega) | simp) (.cells #[.int .i64 x, .int .i64 y, .int .i64 dx, .int .i64 dy] 112)).alloc (by first | omega | (simp; omega) | simp) (.cells #[.int .i64 0, .int .i64 0, .int .i64 0, .int .i64 0] 112)).trans (hb1.mono (by first | omega | (simp; omega) | simp))
    obtain ⟨wka_b, wkb_b, wkc_b, wkd_b⟩ := ((wk_1).alloc (.cells #[.int .i64 X, .int .i64 Y] 110)).four
    obtain ⟨qa_b, qb_b⟩ := (Bx.new_ w1 (w1.heap.size) 110 #[.int .i64 X, .int .i64 Y] (by simp)).two
    obtain ⟨pa_b, pb_b, pc_b⟩ := ((p_1).alloc (.cells #[.int .i64 X, .int .i64 Y] 110)).three
    obtain ⟨qa_x3, qb_x3⟩ := ((Bx.new_ w1 (w1.heap.size) 110 #[.int .i64 X, .int .i64 Y] (by simp)).alloc (.cells #[.int .i64 X, .int .i64 Y, .int .i64 dx, .int .i64 dy] 112)).two
    obtain ⟨oa_x3, ob_x3, oc_x3, od_x3⟩ := (Bx.new_ (w1.alloc (.cells #[.int .i64 X, .int .i64 Y] 110)) (w1.heap.size + 1) 112 #[.int .i64 X, .int .i64 Y, .int .i64 dx, .int .i64 dy] (by simp)).four
    have of0_x3 := (Bx.new_ (w1.alloc (.cells #[.int .i64 X, .int .i64 Y] 110)) (w1.heap.size + 1) 112 #[.int .i64 X, .int .i64 Y, .int .i64 dx, .int .i64 dy] (by simp)).frozen 0
    have of1_x3 := (Bx.new_ (w1.alloc (.cells #[.int .i64 X, .int .i64 Y] 110)) (w1.heap.size + 1) 112 #[.int .i64 X, .int .i64 Y, .int .i64 dx, .int .i64 dy] (by simp)).frozen 1
    have of2_x3 := (Bx.new_ (w1.alloc (.cells #[.int .i64 X, .int .i64 Y] 110)) (w1.heap.size + 1) 112 #[.int .i64 X, .int .i64 Y, .int .i64 dx, .int .i64 dy] (by simp)).frozen 2
    have of3_x3 := (Bx.new_ (w1.alloc (.cells #[.int .i64 X, .int .i64 Y] 110)) (w1.heap.size + 1) 112 #[.int .i64 X, .int .i64 Y, .int .i64 dx, .int .i64 dy] (by simp)).frozen 3
    obtain ⟨wka_x3, wkb_x3, wkc_x3, wkd_x3⟩ := (((wk_1).alloc (.cells #[.int .i64 X, .int .i64 Y] 110)).alloc (.cells #[.int .i64 X, .int .i64 Y, .int .i64 dx, .int .i64 dy] 112)).four
    obtain ⟨pa_x3, pb_x3, pc_x3⟩ := (((p_1).alloc (.cells #[.int .i64 X, .int .i64 Y] 110)).alloc (.cells #[.int .i64 X, .int .i64 Y, .int .i64 dx, .int .i64 dy] 112)).three
    go_wp2_with fail
    refine ((isBorder_any wd ht X Y A c xs _ hsz.out)).mono ?_
    rintro e w3 ⟨rfl, hb3⟩
    have p_3 := (((p_1).alloc (.cells #[.int .i64 X, .int .i64 Y] 110)).alloc (.cells #[.int .i64 X, .int .i64 Y, .int .i64 dx, .int .i64 dy] 112)).below hb3
    obtain ⟨pa_3, pb_3, pc_3⟩ := (p_3).three
    have wk_3 := (((wk_1).alloc (.cells #[.int .i64 X, .int .i64 Y] 110)).alloc (.cells #[.int .i64 X, .int .i64 Y, .int .i64 dx, .int .i64 dy] 112)).below hb3
    obtain ⟨wka_3, wkb_3, wkc_3, wkd_3⟩ := (wk_3).four
    have r_3 := (((r_1).alloc (.cells #[.int .i64 X, .int .i64 Y] 110)).alloc (.cells #[.int .i64 X, .int .i64 Y, .int .i64 dx, .int .i64 dy] 112)).below hb3
    obtain ⟨ra_3, rb_3, rc_3, rd_3⟩ := (r_3).four
    have rf0_3 := (r_3).frozen 0
    have rf1_3 := (r_3).frozen 1
    have rf2_3 := (r_3).frozen 2
    have rf3_3 := (r_3).frozen 3
    have q_3 := ((Bx.new_ w1 (w1.heap.size) 110 #[.int .i64 X, .int .i64 Y] (by simp)).alloc (.cells #[.int .i64 X, .int .i64 Y, .int .i64 dx, .int .i64 dy] 112)).below hb3
    obtain ⟨qa_3, qb_3⟩ := (q_3).two
    have o_3 := (Bx.new_ (w1.alloc (.cells #[.int .i64 X, .int .i64 Y] 110)) (w1.heap.size + 1) 112 #[.int .i64 X, .int .i64 Y, .int .i64 dx, .int .i64 dy] (by simp)).below hb3
    obtain ⟨oa_3, ob_3, oc_3, od_3⟩ := (o_3).four
    have of0_3 := (o_3).frozen 0
    have of1_3 := (o_3).frozen 1
    have of2_3 := (o_3).frozen 2
    have of3_3 := (o_3).frozen 3
    have z_3 : ((w1.alloc (.cells #[.int .i64 X, .int .i64 Y] 110)).alloc (.cells #[.int .i64 X, .int .i64 Y, .int .i64 dx, .int .i64 dy] 112)).heap.size ≤ w3.heap.size := hb3.size
    simp only [World.size_alloc] at z_3
    have B_3 := (((B_1).alloc (by first | omega | (simp; omega) | simp) (.cells #[.int .i64 X, .int .i64 Y] 110)).alloc (by first | omega | (simp; omega) | simp) (.cells #[.int .i64 X, .int .i64 Y, .int .i64 dx, .int .i64 dy] 112)).trans (hb3.mono (by first | omega | (simp; omega) | simp))
    rw [hE.out]
    obtain ⟨ra_c, rb_c, rc_c, rd_c⟩ := (r_3).four
    have rf0_c := (r_3).frozen 0
    have rf1_c := (r_3).frozen 1
    have rf2_c := (r_3).frozen 2
    have rf3_c := (r_3).frozen 3
    obtain ⟨oa_c, ob_c, oc_c, od_c⟩ := (o_3).four
    have of0_c := (o_3).frozen 0
    have of1_c := (o_3).frozen 1
    have of2_c := (o_3).frozen 2
    have of3_c := (o_3).frozen 3
    obtain ⟨qa_c, qb_c⟩ := (q_3).two
    obtain ⟨pa_c, pb_c, pc_c⟩ := (p_3).three
    obtain ⟨wka_c, wkb_c, wkc_c, wkd_c⟩ := (wk_3).four
    obtain ⟨oa_x5, ob_x5, oc_x5, od_x5⟩ := ((o_3).set_ 2 (.int .i64 (-dx))).four
    have of0_x5 := ((o_3).set_ 2 (.int .i64 (-dx))).frozen 0
    have of1_x5 := ((o_3).set_ 2 (.int .i64 (-dx))).frozen 1
    have of2_x5 := ((o_3).set_ 2 (.int .i64 (-dx))).frozen 2
    have of3_x5 := ((o_3).set_ 2 (.int .i64 (-dx))).frozen 3
    obtain ⟨qa_x5, qb_x5⟩ := ((q_3).far (p := ⟨(w1.heap.size + 1), 2, none⟩) (by first | omega | (simp; omega) | simp) (.int .i64 (-dx))).two
    obtain ⟨pa_x5, pb_x5, pc_x5⟩ := ((p_3).far (p := ⟨(w1.heap.size + 1), 2, none⟩) (by first | omega | (simp; omega) | simp) (.int .i64 (-dx))).three
    obtain ⟨wka_x5, wkb_x5, wkc_x5, wkd_x5⟩ := ((wk_3).far (p := ⟨(w1.heap.size + 1), 2, none⟩) (by first | omega | (simp; omega) | simp) (.int .i64 (-dx))).four
    obtain ⟨ra_x5, rb_x5, rc_x5, rd_x5⟩ := ((r_3).far (p := ⟨(w1.heap.size + 1), 2, none⟩) (by first | omega | (simp; omega) | simp) (.int .i64 (-dx))).four
    have rf0_x5 := ((r_3).far (p := ⟨(w1.heap.size + 1), 2, none⟩) (by first | omega | (simp; omega) | simp) (.int .i64 (-dx))).frozen 0
    have rf1_x5 := ((r_3).far (p := ⟨(w1.heap.size + 1), 2, none⟩) (by first | omega | (simp; omega) | simp) (.int .i64 (-dx))).frozen 1
    have rf2_x5 := ((r_3).far (p := ⟨(w1.heap.size + 1), 2, none⟩) (by first | omega | (simp; omega) | simp) (.int .i64 (-dx))).frozen 2
    have rf3_x5 := ((r_3).far (p := ⟨(w1.heap.size + 1), 2, none⟩) (by first | omega | (simp; omega) | simp) (.int .i64 (-dx))).frozen 3
    obtain ⟨ra_x6, rb_x6, rc_x6, rd_x6⟩ := (((r_3).far (p := ⟨(w1.heap.size + 1), 2, none⟩) (by first | omega | (simp; omega) | simp) (.int .i64 (-dx))).set_ 0 (.int .i64 (X))).four
    have rf0_x6 := (((r_3).far (p := ⟨(w1.heap.size + 1), 2, none⟩) (by first | omega | (simp; omega) | simp) (.int .i64 (-dx))).set_ 0 (.int .i64 (X))).frozen 0
    have rf1_x6 := (((r_3).far (p := ⟨(w1.heap.size + 1), 2, none⟩) (by first | omega | (simp; omega) | simp) (.int .i64 (-dx))).set_ 0 (.int .i64 (X))).frozen 1
    have rf2_x6 := (((r_3).far (p := ⟨(w1.heap.size + 1), 2, none⟩) (by first | omega | (simp; omega) | simp) (.int .i64 (-dx))).set_ 0 (.int .i64 (X))).frozen 2
    have rf3_x6 := (((r_3).far (p := ⟨(w1.heap.size + 1), 2, none⟩) (by first | omega | (simp; omega) | simp) (.int .i64 (-dx))).set_ 0 (.int .i64 (X))).frozen 3
    obtain ⟨ra_x7, rb_x7, rc_x7, rd_x7⟩ := ((((r_3).far (p := ⟨(w1.heap.size + 1), 2, none⟩) (by first | omega | (simp; omega) | simp) (.int .i64 (-dx))).set_ 0 (.int .i64 (X))).set_ 1 (.int .i64 (Y))).four
    have rf0_x7 := ((((r_3).far (p := ⟨(w1.heap.size + 1), 2, none⟩) (by first | omega | (simp; omega) | simp) (.int .i64 (-dx))).set_ 0 (.int .i64 (X))).set_ 1 (.int .i64 (Y))).frozen 0
    have rf1_x7 := ((((r_3).far (p := ⟨(w1.heap.size + 1), 2, none⟩) (by first | omega | (simp; omega) | simp) (.int .i64 (-dx))).set_ 0 (.int .i64 (X))).set_ 1 (.int .i64 (Y))).frozen 1
    have rf2_x7 := ((((r_3).far (p := ⟨(w1.heap.size + 1), 2, none⟩) (by first | omega | (simp; omega) | simp) (.int .i64 (-dx))).set_ 0 (.int .i64 (X))).set_ 1 (.int .i64 (Y))).frozen 2
    have rf3_x7 := ((((r_3).far (p := ⟨(w1.heap.size + 1), 2, none⟩) (by first | omega | (simp; omega) | simp) (.int .i64 (-dx))).set_ 0 (.int .i64 (X))).set_ 1 (.int .i64 (Y))).frozen 3
    obtain ⟨ra_x8, rb_x8, rc_x8, rd_x8⟩ := (((((r_3).far (p := ⟨(w1.heap.size + 1), 2, none⟩) (by first | omega | (simp; omega) | simp) (.int .i64 (-dx))).set_ 0 (.int .i64 (X))).set_ 1 (.int .i64 (Y))).set_ 2 (.int .i64 (-dx))).four
    have rf0_x8 := (((((r_3).far (p := ⟨(w1.heap.size + 1), 2, none⟩) (by first | omega | (simp; omega) | simp) (.int .i64 (-dx))).set_ 0 (.int .i64 (X))).set_ 1 (.int .i64 (Y))).set_ 2 (.int .i64 (-dx))).frozen 0
    have rf1_x8 := (((((r_3).far (p := ⟨(w1.heap.size + 1), 2, none⟩) (by first | omega | (simp; omega) | simp) (.int .i64 (-dx))).set_ 0 (.int .i64 (X))).set_ 1 (.int .i64 (Y))).set_ 2 (.int .i64 (-dx))).frozen 1
    have rf2_x8 := (((((r_3).far (p := ⟨(w1.heap.size + 1), 2, none⟩) (by first | omega | (simp; omega) | simp) (.int .i64 (-dx))).set_ 0 (.int .i64 (X))).set_ 1 (.int .i64 (Y))).set_ 2 (.int .i64 (-dx))).frozen 2
    have rf3_x8 := (((((r_3).far (p := ⟨(w1.heap.size + 1), 2, none⟩) (by first | omega | (simp; omega) | simp) (.int .i64 (-dx))).set_ 0 (.int .i64 (X))).set_ 1 (.int .i64 (Y))).set_ 2 (.int .i64 (-dx))).frozen 3
    obtain ⟨ra_x9, rb_x9, rc_x9, rd_x9⟩ := ((((((r_3).far (p := ⟨(w1.heap.size + 1), 2, none⟩) (by first | omega | (simp; omega) | simp) (.int .i64 (-dx))).set_ 0 (.int .i64 (X))).set_ 1 (.int .i64 (Y))).set_ 2 (.int .i64 (-dx))).set_ 3 (.int .i64 (dy))).four
    have rf0_x9 := ((((((r_3).far (p := ⟨(w1.heap.size + 1), 2, none⟩) (by first | omega | (simp; omega) | simp) (.int .i64 (-dx))).set_ 0 (.int .i64 (X))).set_ 1 (.int .i64 (Y))).set_ 2 (.int .i64 (-dx))).set_ 3 (.int .i64 (dy))).frozen 0
    have rf1_x9 := ((((((r_3).far (p := ⟨(w1.heap.size + 1), 2, none⟩) (by first | omega | (simp; omega) | simp) (.int .i64 (-dx))).set_ 0 (.int .i64 (X))).set_ 1 (.int .i64 (Y))).set_ 2 (.int .i64 (-dx))).set_ 3 (.int .i64 (dy))).frozen 1
    have rf2_x9 := ((((((r_3).far (p := ⟨(w1.heap.size + 1), 2, none⟩) (by first | omega | (simp; omega) | simp) (.int .i64 (-dx))).set_ 0 (.int .i64 (X))).set_ 1 (.int .i64 (Y))).set_ 2 (.int .i64 (-dx))).set_ 3 (.int .i64 (dy))).frozen 2
    have rf3_x9 := ((((((r_3).far (p := ⟨(w1.heap.size + 1), 2, none⟩) (by first | omega | (simp; omega) | simp) (.int .i64 (-dx))).set_ 0 (.int .i64 (X))).set_ 1 (.int .i64 (Y))).set_ 2 (.int .i64 (-dx))).set_ 3 (.int .i64 (dy))).frozen 3
    go_wp2_with fail
    go_region
    go_wp2_with fail
    obtain ⟨ra_z, rb_z, rc_z, rd_z⟩ := ((((((r_3).far (p := ⟨(w1.heap.size + 1), 2, none⟩) (by first | omega | (simp; omega) | simp) (.int .i64 (-dx))).set_ 0 (.int .i64 (X))).set_ 1 (.int .i64 (Y))).set_ 2 (.int .i64 (-dx))).set_ 3 (.int .i64 (dy))).four
    have rf0_z := ((((((r_3).far (p := ⟨(w1.heap.size + 1), 2, none⟩) (by first | omega | (simp; omega) | simp) (.int .i64 (-dx))).set_ 0 (.int .i64 (X))).set_ 1 (.int .i64 (Y))).set_ 2 (.int .i64 (-dx))).set_ 3 (.int .i64 (dy))).frozen 0
    have rf1_z := ((((((r_3).far (p := ⟨(w1.heap.size + 1), 2, none⟩) (by first | omega | (simp; omega) | simp) (.int .i64 (-dx))).set_ 0 (.int .i64 (X))).set_ 1 (.int .i64 (Y))).set_ 2 (.int .i64 (-dx))).set_ 3 (.int .i64 (dy))).frozen 1
    have rf2_z := ((((((r_3).far (p := ⟨(w1.heap.size + 1), 2, none⟩) (by first | omega | (simp; omega) | simp) (.int .i64 (-dx))).set_ 0 (.int .i64 (X))).set_ 1 (.int .i64 (Y))).set_ 2 (.int .i64 (-dx))).set_ 3 (.int .i64 (dy))).frozen 2
    have rf3_z := ((((((r_3).far (p := ⟨(w1.heap.size + 1), 2, none⟩) (by first | omega | (simp; omega) | simp) (.int .i64 (-dx))).set_ 0 (.int .i64 (X))).set_ 1 (.int .i64 (Y))).set_ 2 (.int .i64 (-dx))).set_ 3 (.int .i64 (dy))).frozen 3
    refine bodyPost_ret (v := .tuple #[.agg #[.int .i64 X, .int .i64 Y, .int .i64 (-dx), .int .i64 (dy)], .bool true]) (by simp [results, Try.results114, go_sem, ra_z, rb_z, rc_z, rd_z]) rfl ?_
    exact ⟨_, rfl, (((((((B_3).setCell (p := ⟨(w1.heap.size + 1), 2, none⟩) (by first | omega | (simp; omega) | simp) (.int .i64 (-dx))).setCell (p := ⟨(w.heap.size + 1 + 1), 0, none⟩) (by first | omega | (simp; omega) | simp) (.int .i64 (X))).setCell (p := ⟨(w.heap.size + 1 + 1), 1, none⟩) (by first | omega | (simp; omega) | simp) (.int .i64 (Y))).setCell (p := ⟨(w.heap.size + 1 + 1), 2, none⟩) (by first | omega | (simp; omega) | simp) (.int .i64 (-dx))).setCell (p := ⟨(w.heap.size + 1 + 1), 3, none⟩) (by first | omega | (simp; omega) | simp) (.int .i64 (dy)))).drew⟩
  · intro h1 h2 h3 h4 he
    have hkE := hide (inner_at (xs := xs) hsz.out hON.out)
    have hE := hide (edge_true he)
    clear hkE he ha
    obtain ⟨x, y, dx, dy⟩ := a
    simp only [Wk.nx, Wk.ny] at *
    generalize hX : x + dx = X at *
    generalize hY : y + dy = Y at *
    have HXY := hide (And.intro hX hY)
    clear hX hY
    have ex0 : (X == 0) = false := eqf (by omega)
    have dx0 := dec_of ex0
    have ex2 : (X == 2 * wd) = true := eqt (by omega)
    have dx2 := dec_of ex2
    have ey0 : (Y == 0) = false := eqf (by omega)
    have dy0 := dec_of ey0
    have ey2 : (Y == 2 * ht) = false := eqf (by omega)
    have dy2 := dec_of ey2
    clear h1 h2 h3 h4
    obtain ⟨s1, s2, s3, s4⟩ := hsz.out
    have b1 : (-dx != dx) = true := by rcases g5 with rfl | rfl <;> rfl
    have b2 : (-dy != dy) = true := by rcases g6 with rfl | rfl <;> rfl
    have b3 : (dx != dx) = false := by simp
    have b4 : (dy != dy) = false := by simp
    obtain ⟨wka_x1, wkb_x1, wkc_x1, wkd_x1⟩ := ((Bx.new_ (w.alloc (.cells #[.int .i64 wd, .int .i64 ht, .slice A xs.length c] 36)) (w.heap.size + 1) 112 #[.int .i64 x, .int .i64 y, .int .i64 dx, .int .i64 dy] (by simp)).alloc (.cells #[.int .i64 0, .int .i64 0, .int .i64 0, .int .i64 0] 112)).four
    obtain ⟨pa_x1, pb_x1, pc_x1⟩ := (((Bx.new_ w (w.heap.size) 36 #[.int .i64 wd, .int .i64 ht, .slice A xs.length c] (by simp)).alloc (.cells #[.int .i64 x, .int .i64 y, .int .i64 dx, .int .i64 dy] 112)).alloc (.cells #[.int .i64 0, .int .i64 0, .int .i64 0, .int .i64 0] 112)).three
    go_enter Try.func114, Try.ntmps114
    go_wp2_with fail
    refine ((HX.out _)).mono ?_
    rintro e w1 ⟨rfl, hb1⟩
    have p_1 := (((Bx.new_ w (w.heap.size) 36 #[.int .i64 wd, .int .i64 ht, .slice A xs.length c] (by simp)).alloc (.cells #[.int .i64 x, .int .i64 y, .int .i64 dx, .int .i64 dy] 112)).alloc (.cells #[.int .i64 0, .int .i64 0, .int .i64 0, .int .i64 0] 112)).below hb1
    obtain ⟨pa_1, pb_1, pc_1⟩ := (p_1).three
    have wk_1 := ((Bx.new_ (w.alloc (.cells #[.int .i64 wd, .int .i64 ht, .slice A xs.length c] 36)) (w.heap.size + 1) 112 #[.int .i64 x, .int .i64 y, .int .i64 dx, .int .i64 dy] (by simp)).alloc (.cells #[.int .i64 0, .int .i64 0, .int .i64 0, .int .i64 0] 112)).below hb1
    obtain ⟨wka_1, wkb_1, wkc_1, wkd_1⟩ := (wk_1).four
    have r_1 := (Bx.new_ ((w.alloc (.cells #[.int .i64 wd, .int .i64 ht, .slice A xs.length c] 36)).alloc (.cells #[.int .i64 x, .int .i64 y, .int .i64 dx, .int .i64 dy] 112)) (w.heap.size + 1 + 1) 112 #[.int .i64 0, .int .i64 0, .int .i64 0, .int .i64 0] (by simp)).below hb1
    obtain ⟨ra_1, rb_1, rc_1, rd_1⟩ := (r_1).four
    have rf0_1 := (r_1).frozen 0
    have rf1_1 := (r_1).frozen 1
    have rf2_1 := (r_1).frozen 2
    have rf3_1 := (r_1).frozen 3
    have z_1 : (((w.alloc (.cells #[.int .i64 wd, .int .i64 ht, .slice A xs.length c] 36)).alloc (.cells #[.int .i64 x, .int .i64 y, .int .i64 dx, .int .i64 dy] 112)).alloc (.cells #[.int .i64 0, .int .i64 0, .int .i64 0, .int .i64 0] 112)).heap.size ≤ w1.heap.size := hb1.size
    simp only [World.size_alloc] at z_1
    have B_1 := ((((Below.refl w.heap.size w).alloc (by first | omega | (simp; omega) | simp) (.cells #[.int .i64 wd, .int .i64 ht, .slice A xs.length c] 36)).alloc (by first | omega | (simp; omega) | simp) (.cells #[.int .i64 x, .int .i64 y, .int .i64 dx, .int .i64 dy] 112)).alloc (by first | omega | (simp; omega) | simp) (.cells #[.int .i64 0, .int .i64 0, .int .i64 0, .int .i64 0] 112)).trans (hb1.mono (by first | omega | (simp; omega) | simp))
    obtain ⟨wka_b, wkb_b, wkc_b, wkd_b⟩ := ((wk_1).alloc (.cells #[.int .i64 X, .int .i64 Y] 110)).four
    obtain ⟨qa_b, qb_b⟩ := (Bx.new_ w1 (w1.heap.size) 110 #[.int .i64 X, .int .i64 Y] (by simp)).two
    obtain ⟨pa_b, pb_b, pc_b⟩ := ((p_1).alloc (.cells #[.int .i64 X, .int .i64 Y] 110)).three
    obtain ⟨qa_x3, qb_x3⟩ := ((Bx.new_ w1 (w1.heap.size) 110 #[.int .i64 X, .int .i64 Y] (by simp)).alloc (.cells #[.int .i64 X, .int .i64 Y, .int .i64 dx, .int .i64 dy] 112)).two
    obtain ⟨oa_x3, ob_x3, oc_x3, od_x3⟩ := (Bx.new_ (w1.alloc (.cells #[.int .i64 X, .int .i64 Y] 110)) (w1.heap.size + 1) 112 #[.int .i64 X, .int .i64 Y, .int .i64 dx, .int .i64 dy] (by simp)).four
    have of0_x3 := (Bx.new_ (w1.alloc (.cells #[.int .i64 X, .int .i64 Y] 110)) (w1.heap.size + 1) 112 #[.int .i64 X, .int .i64 Y, .int .i64 dx, .int .i64 dy] (by simp)).frozen 0
    have of1_x3 := (Bx.new_ (w1.alloc (.cells #[.int .i64 X, .int .i64 Y] 110)) (w1.heap.size + 1) 112 #[.int .i64 X, .int .i64 Y, .int .i64 dx, .int .i64 dy] (by simp)).frozen 1
    have of2_x3 := (Bx.new_ (w1.alloc (.cells #[.int .i64 X, .int .i64 Y] 110)) (w1.heap.size + 1) 112 #[.int .i64 X, .int .i64 Y, .int .i64 dx, .int .i64 dy] (by simp)).frozen 2
    have of3_x3 := (Bx.new_ (w1.alloc (.cells #[.int .i64 X, .int .i64 Y] 110)) (w1.heap.size + 1) 112 #[.int .i64 X, .int .i64 Y, .int .i64 dx, .int .i64 dy] (by simp)).frozen 3
    obtain ⟨wka_x3, wkb_x3, wkc_x3, wkd_x3⟩ := (((wk_1).alloc (.cells #[.int .i64 X, .int .i64 Y] 110)).alloc (.cells #[.int .i64 X, .int .i64 Y, .int .i64 dx, .int .i64 dy] 112)).four
    obtain ⟨pa_x3, pb_x3, pc_x3⟩ := (((p_1).alloc (.cells #[.int .i64 X, .int .i64 Y] 110)).alloc (.cells #[.int .i64 X, .int .i64 Y, .int .i64 dx, .int .i64 dy] 112)).three
    go_wp2_with fail
    refine ((isBorder_any wd ht X Y A c xs _ hsz.out)).mono ?_
    rintro e w3 ⟨rfl, hb3⟩
    have p_3 := (((p_1).alloc (.cells #[.int .i64 X, .int .i64 Y] 110)).alloc (.cells #[.int .i64 X, .int .i64 Y, .int .i64 dx, .int .i64 dy] 112)).below hb3
    obtain ⟨pa_3, pb_3, pc_3⟩ := (p_3).three
    have wk_3 := (((wk_1).alloc (.cells #[.int .i64 X, .int .i64 Y] 110)).alloc (.cells #[.int .i64 X, .int .i64 Y, .int .i64 dx, .int .i64 dy] 112)).below hb3
    obtain ⟨wka_3, wkb_3, wkc_3, wkd_3⟩ := (wk_3).four
    have r_3 := (((r_1).alloc (.cells #[.int .i64 X, .int .i64 Y] 110)).alloc (.cells #[.int .i64 X, .int .i64 Y, .int .i64 dx, .int .i64 dy] 112)).below hb3
    obtain ⟨ra_3, rb_3, rc_3, rd_3⟩ := (r_3).four
    have rf0_3 := (r_3).frozen 0
    have rf1_3 := (r_3).frozen 1
    have rf2_3 := (r_3).frozen 2
    have rf3_3 := (r_3).frozen 3
    have q_3 := ((Bx.new_ w1 (w1.heap.size) 110 #[.int .i64 X, .int .i64 Y] (by simp)).alloc (.cells #[.int .i64 X, .int .i64 Y, .int .i64 dx, .int .i64 dy] 112)).below hb3
    obtain ⟨qa_3, qb_3⟩ := (q_3).two
    have o_3 := (Bx.new_ (w1.alloc (.cells #[.int .i64 X, .int .i64 Y] 110)) (w1.heap.size + 1) 112 #[.int .i64 X, .int .i64 Y, .int .i64 dx, .int .i64 dy] (by simp)).below hb3
    obtain ⟨oa_3, ob_3, oc_3, od_3⟩ := (o_3).four
    have of0_3 := (o_3).frozen 0
    have of1_3 := (o_3).frozen 1
    have of2_3 := (o_3).frozen 2
    have of3_3 := (o_3).frozen 3
    have z_3 : ((w1.alloc (.cells #[.int .i64 X, .int .i64 Y] 110)).alloc (.cells #[.int .i64 X, .int .i64 Y, .int .i64 dx, .int .i64 dy] 112)).heap.size ≤ w3.heap.size := hb3.size
    simp only [World.size_alloc] at z_3
    have B_3 := (((B_1).alloc (by first | omega | (simp; omega) | simp) (.cells #[.int .i64 X, .int .i64 Y] 110)).alloc (by first | omega | (simp; omega) | simp) (.cells #[.int .i64 X, .int .i64 Y, .int .i64 dx, .int .i64 dy] 112)).trans (hb3.mono (by first | omega | (simp; omega) | simp))
    rw [hE.out]
    obtain ⟨ra_c, rb_c, rc_c, rd_c⟩ := (r_3).four
    have rf0_c := (r_3).frozen 0
    have rf1_c := (r_3).frozen 1
    have rf2_c := (r_3).frozen 2
    have rf3_c := (r_3).frozen 3
    obtain ⟨oa_c, ob_c, oc_c, od_c⟩ := (o_3).four
    have of0_c := (o_3).frozen 0
    have of1_c := (o_3).frozen 1
    have of2_c := (o_3).frozen 2
    have of3_c := (o_3).frozen 3
    obtain ⟨qa_c, qb_c⟩ := (q_3).two
    obtain ⟨pa_c, pb_c, pc_c⟩ := (p_3).three
    obtain ⟨wka_c, wkb_c, wkc_c, wkd_c⟩ := (wk_3).four
    obtain ⟨oa_x5, ob_x5, oc_x5, od_x5⟩ := ((o_3).set_ 2 (.int .i64 (-dx))).four
    have of0_x5 := ((o_3).set_ 2 (.int .i64 (-dx))).frozen 0
    have of1_x5 := ((o_3).set_ 2 (.int .i64 (-dx))).frozen 1
    have of2_x5 := ((o_3).set_ 2 (.int .i64 (-dx))).frozen 2
    have of3_x5 := ((o_3).set_ 2 (.int .i64 (-dx))).frozen 3
    obtain ⟨qa_x5, qb_x5⟩ := ((q_3).far (p := ⟨(w1.heap.size + 1), 2, none⟩) (by first | omega | (simp; omega) | simp) (.int .i64 (-dx))).two
    obtain ⟨pa_x5, pb_x5, pc_x5⟩ := ((p_3).far (p := ⟨(w1.heap.size + 1), 2, none⟩) (by first | omega | (simp; omega) | simp) (.int .i64 (-dx))).three
    obtain ⟨wka_x5, wkb_x5, wkc_x5, wkd_x5⟩ := ((wk_3).far (p := ⟨(w1.heap.size + 1), 2, none⟩) (by first | omega | (simp; omega) | simp) (.int .i64 (-dx))).four
    obtain ⟨ra_x5, rb_x5, rc_x5, rd_x5⟩ := ((r_3).far (p := ⟨(w1.heap.size + 1), 2, none⟩) (by first | omega | (simp; omega) | simp) (.int .i64 (-dx))).four
    have rf0_x5 := ((r_3).far (p := ⟨(w1.heap.size + 1), 2, none⟩) (by first | omega | (simp; omega) | simp) (.int .i64 (-dx))).frozen 0
    have rf1_x5 := ((r_3).far (p := ⟨(w1.heap.size + 1), 2, none⟩) (by first | omega | (simp; omega) | simp) (.int .i64 (-dx))).frozen 1
    have rf2_x5 := ((r_3).far (p := ⟨(w1.heap.size + 1), 2, none⟩) (by first | omega | (simp; omega) | simp) (.int .i64 (-dx))).frozen 2
    have rf3_x5 := ((r_3).far (p := ⟨(w1.heap.size + 1), 2, none⟩) (by first | omega | (simp; omega) | simp) (.int .i64 (-dx))).frozen 3
    obtain ⟨ra_x6, rb_x6, rc_x6, rd_x6⟩ := (((r_3).far (p := ⟨(w1.heap.size + 1), 2, none⟩) (by first | omega | (simp; omega) | simp) (.int .i64 (-dx))).set_ 0 (.int .i64 (X))).four
    have rf0_x6 := (((r_3).far (p := ⟨(w1.heap.size + 1), 2, none⟩) (by first | omega | (simp; omega) | simp) (.int .i64 (-dx))).set_ 0 (.int .i64 (X))).frozen 0
    have rf1_x6 := (((r_3).far (p := ⟨(w1.heap.size + 1), 2, none⟩) (by first | omega | (simp; omega) | simp) (.int .i64 (-dx))).set_ 0 (.int .i64 (X))).frozen 1
    have rf2_x6 := (((r_3).far (p := ⟨(w1.heap.size + 1), 2, none⟩) (by first | omega | (simp; omega) | simp) (.int .i64 (-dx))).set_ 0 (.int .i64 (X))).frozen 2
    have rf3_x6 := (((r_3).far (p := ⟨(w1.heap.size + 1), 2, none⟩) (by first | omega | (simp; omega) | simp) (.int .i64 (-dx))).set_ 0 (.int .i64 (X))).frozen 3
    obtain ⟨ra_x7, rb_x7, rc_x7, rd_x7⟩ := ((((r_3).far (p := ⟨(w1.heap.size + 1), 2, none⟩) (by first | omega | (simp; omega) | simp) (.int .i64 (-dx))).set_ 0 (.int .i64 (X))).set_ 1 (.int .i64 (Y))).four
    have rf0_x7 := ((((r_3).far (p := ⟨(w1.heap.size + 1), 2, none⟩) (by first | omega | (simp; omega) | simp) (.int .i64 (-dx))).set_ 0 (.int .i64 (X))).set_ 1 (.int .i64 (Y))).frozen 0
    have rf1_x7 := ((((r_3).far (p := ⟨(w1.heap.size + 1), 2, none⟩) (by first | omega | (simp; omega) | simp) (.int .i64 (-dx))).set_ 0 (.int .i64 (X))).set_ 1 (.int .i64 (Y))).frozen 1
    have rf2_x7 := ((((r_3).far (p := ⟨(w1.heap.size + 1), 2, none⟩) (by first | omega | (simp; omega) | simp) (.int .i64 (-dx))).set_ 0 (.int .i64 (X))).set_ 1 (.int .i64 (Y))).frozen 2
    have rf3_x7 := ((((r_3).far (p := ⟨(w1.heap.size + 1), 2, none⟩) (by first | omega | (simp; omega) | simp) (.int .i64 (-dx))).set_ 0 (.int .i64 (X))).set_ 1 (.int .i64 (Y))).frozen 3
    obtain ⟨ra_x8, rb_x8, rc_x8, rd_x8⟩ := (((((r_3).far (p := ⟨(w1.heap.size + 1), 2, none⟩) (by first | omega | (simp; omega) | simp) (.int .i64 (-dx))).set_ 0 (.int .i64 (X))).set_ 1 (.int .i64 (Y))).set_ 2 (.int .i64 (-dx))).four
    have rf0_x8 := (((((r_3).far (p := ⟨(w1.heap.size + 1), 2, none⟩) (by first | omega | (simp; omega) | simp) (.int .i64 (-dx))).set_ 0 (.int .i64 (X))).set_ 1 (.int .i64 (Y))).set_ 2 (.int .i64 (-dx))).frozen 0
    have rf1_x8 := (((((r_3).far (p := ⟨(w1.heap.size + 1), 2, none⟩) (by first | omega | (simp; omega) | simp) (.int .i64 (-dx))).set_ 0 (.int .i64 (X))).set_ 1 (.int .i64 (Y))).set_ 2 (.int .i64 (-dx))).frozen 1
    have rf2_x8 := (((((r_3).far (p := ⟨(w1.heap.size + 1), 2, none⟩) (by first | omega | (simp; omega) | simp) (.int .i64 (-dx))).set_ 0 (.int .i64 (X))).set_ 1 (.int .i64 (Y))).set_ 2 (.int .i64 (-dx))).frozen 2
    have rf3_x8 := (((((r_3).far (p := ⟨(w1.heap.size + 1), 2, none⟩) (by first | omega | (simp; omega) | simp) (.int .i64 (-dx))).set_ 0 (.int .i64 (X))).set_ 1 (.int .i64 (Y))).set_ 2 (.int .i64 (-dx))).frozen 3
    obtain ⟨ra_x9, rb_x9, rc_x9, rd_x9⟩ := ((((((r_3).far (p := ⟨(w1.heap.size + 1), 2, none⟩) (by first | omega | (simp; omega) | simp) (.int .i64 (-dx))).set_ 0 (.int .i64 (X))).set_ 1 (.int .i64 (Y))).set_ 2 (.int .i64 (-dx))).set_ 3 (.int .i64 (dy))).four
    have rf0_x9 := ((((((r_3).far (p := ⟨(w1.heap.size + 1), 2, none⟩) (by first | omega | (simp; omega) | simp) (.int .i64 (-dx))).set_ 0 (.int .i64 (X))).set_ 1 (.int .i64 (Y))).set_ 2 (.int .i64 (-dx))).set_ 3 (.int .i64 (dy))).frozen 0
    have rf1_x9 := ((((((r_3).far (p := ⟨(w1.heap.size + 1), 2, none⟩) (by first | omega | (simp; omega) | simp) (.int .i64 (-dx))).set_ 0 (.int .i64 (X))).set_ 1 (.int .i64 (Y))).set_ 2 (.int .i64 (-dx))).set_ 3 (.int .i64 (dy))).frozen 1
    have rf2_x9 := ((((((r_3).far (p := ⟨(w1.heap.size + 1), 2, none⟩) (by first | omega | (simp; omega) | simp) (.int .i64 (-dx))).set_ 0 (.int .i64 (X))).set_ 1 (.int .i64 (Y))).set_ 2 (.int .i64 (-dx))).set_ 3 (.int .i64 (dy))).frozen 2
    have rf3_x9 := ((((((r_3).far (p := ⟨(w1.heap.size + 1), 2, none⟩) (by first | omega | (simp; omega) | simp) (.int .i64 (-dx))).set_ 0 (.int .i64 (X))).set_ 1 (.int .i64 (Y))).set_ 2 (.int .i64 (-dx))).set_ 3 (.int .i64 (dy))).frozen 3
    go_wp2_with fail
    go_region
    go_wp2_with fail
    obtain ⟨ra_z, rb_z, rc_z, rd_z⟩ := ((((((r_3).far (p := ⟨(w1.heap.size + 1), 2, none⟩) (by first | omega | (simp; omega) | simp) (.int .i64 (-dx))).set_ 0 (.int .i64 (X))).set_ 1 (.int .i64 (Y))).set_ 2 (.int .i64 (-dx))).set_ 3 (.int .i64 (dy))).four
    have rf0_z := ((((((r_3).far (p := ⟨(w1.heap.size + 1), 2, none⟩) (by first | omega | (simp; omega) | simp) (.int .i64 (-dx))).set_ 0 (.int .i64 (X))).set_ 1 (.int .i64 (Y))).set_ 2 (.int .i64 (-dx))).set_ 3 (.int .i64 (dy))).frozen 0
    have rf1_z := ((((((r_3).far (p := ⟨(w1.heap.size + 1), 2, none⟩) (by first | omega | (simp; omega) | simp) (.int .i64 (-dx))).set_ 0 (.int .i64 (X))).set_ 1 (.int .i64 (Y))).set_ 2 (.int .i64 (-dx))).set_ 3 (.int .i64 (dy))).frozen 1
    have rf2_z := ((((((r_3).far (p := ⟨(w1.heap.size + 1), 2, none⟩) (by first | omega | (simp; omega) | simp) (.int .i64 (-dx))).set_ 0 (.int .i64 (X))).set_ 1 (.int .i64 (Y))).set_ 2 (.int .i64 (-dx))).set_ 3 (.int .i64 (dy))).frozen 2
    have rf3_z := ((((((r_3).far (p := ⟨(w1.heap.size + 1), 2, none⟩) (by first | omega | (simp; omega) | simp) (.int .i64 (-dx))).set_ 0 (.int .i64 (X))).set_ 1 (.int .i64 (Y))).set_ 2 (.int .i64 (-dx))).set_ 3 (.int .i64 (dy))).frozen 3
    refine bodyPost_ret (v := .tuple #[.agg #[.int .i64 X, .int .i64 Y, .int .i64 (-dx), .int .i64 (dy)], .bool true]) (by simp [results, Try.results114, go_sem, ra_z, rb_z, rc_z, rd_z]) rfl ?_
    exact ⟨_, rfl, (((((((B_3).setCell (p := ⟨(w1.heap.size + 1), 2, none⟩) (by first | omega | (simp; omega) | simp) (.int .i64 (-dx))).setCell (p := ⟨(w.heap.size + 1 + 1), 0, none⟩) (by first | omega | (simp; omega) | simp) (.int .i64 (X))).setCell (p := ⟨(w.heap.size + 1 + 1), 1, none⟩) (by first | omega | (simp; omega) | simp) (.int .i64 (Y))).setCell (p := ⟨(w.heap.size + 1 + 1), 2, none⟩) (by first | omega | (simp; omega) | simp) (.int .i64 (-dx))).setCell (p := ⟨(w.heap.size + 1 + 1), 3, none⟩) (by first | omega | (simp; omega) | simp) (.int .i64 (dy)))).drew⟩
  · intro h1 h2 h3 he
    have hkE := hide (inner_at (xs := xs) hsz.out hON.out)
    have hE := hide (edge_true he)
    clear hkE he ha
    obtain ⟨x, y, dx, dy⟩ := a
    simp only [Wk.nx, Wk.ny] at *
    generalize hX : x + dx = X at *
    generalize hY : y + dy = Y at *
    have HXY := hide (And.intro hX hY)
    clear hX hY
    have ex0 : (X == 0) = false := eqf (by omega)
    have dx0 := dec_of ex0
    have ex2 : (X == 2 * wd) = false := eqf (by omega)
    have dx2 := dec_of ex2
    have ey0 : (Y == 0) = true := eqt (by omega)
    have dy0 := dec_of ey0
    clear h1 h2 h3
    obtain ⟨s1, s2, s3, s4⟩ := hsz.out
    have b1 : (-dx != dx) = true := by rcases g5 with rfl | rfl <;> rfl
    have b2 : (-dy != dy) = true := by rcases g6 with rfl | rfl <;> rfl
    have b3 : (dx != dx) = false := by simp
    have b4 : (dy != dy) = false := by simp
    obtain ⟨wka_x1, wkb_x1, wkc_x1, wkd_x1⟩ := ((Bx.new_ (w.alloc (.cells #[.int .i64 wd, .int .i64 ht, .slice A xs.length c] 36)) (w.heap.size + 1) 112 #[.int .i64 x, .int .i64 y, .int .i64 dx, .int .i64 dy] (by simp)).alloc (.cells #[.int .i64 0, .int .i64 0, .int .i64 0, .int .i64 0] 112)).four
    obtain ⟨pa_x1, pb_x1, pc_x1⟩ := (((Bx.new_ w (w.heap.size) 36 #[.int .i64 wd, .int .i64 ht, .slice A xs.length c] (by simp)).alloc (.cells #[.int .i64 x, .int .i64 y, .int .i64 dx, .int .i64 dy] 112)).alloc (.cells #[.int .i64 0, .int .i64 0, .int .i64 0, .int .i64 0] 112)).three
    go_enter Try.func114, Try.ntmps114
    go_wp2_with fail
    refine ((HX.out _)).mono ?_
    rintro e w1 ⟨rfl, hb1⟩
    have p_1 := (((Bx.new_ w (w.heap.size) 36 #[.int .i64 wd, .int .i64 ht, .slice A xs.length c] (by simp)).alloc (.cells #[.int .i64 x, .int .i64 y, .int .i64 dx, .int .i64 dy] 112)).alloc (.cells #[.int .i64 0, .int .i64 0, .int .i64 0, .int .i64 0] 112)).below hb1
    obtain ⟨pa_1, pb_1, pc_1⟩ := (p_1).three
    have wk_1 := ((Bx.new_ (w.alloc (.cells #[.int .i64 wd, .int .i64 ht, .slice A xs.length c] 36)) (w.heap.size + 1) 112 #[.int .i64 x, .int .i64 y, .int .i64 dx, .int .i64 dy] (by simp)).alloc (.cells #[.int .i64 0, .int .i64 0, .int .i64 0, .int .i64 0] 112)).below hb1
    obtain ⟨wka_1, wkb_1, wkc_1, wkd_1⟩ := (wk_1).four
    have r_1 := (Bx.new_ ((w.alloc (.cells #[.int .i64 wd, .int .i64 ht, .slice A xs.length c] 36)).alloc (.cells #[.int .i64 x, .int .i64 y, .int .i64 dx, .int .i64 dy] 112)) (w.heap.size + 1 + 1) 112 #[.int .i64 0, .int .i64 0, .int .i64 0, .int .i64 0] (by simp)).below hb1
    obtain ⟨ra_1, rb_1, rc_1, rd_1⟩ := (r_1).four
    have rf0_1 := (r_1).frozen 0
    have rf1_1 := (r_1).frozen 1
    have rf2_1 := (r_1).frozen 2
    have rf3_1 := (r_1).frozen 3
    have z_1 : (((w.alloc (.cells #[.int .i64 wd, .int .i64 ht, .slice A xs.length c] 36)).alloc (.cells #[.int .i64 x, .int .i64 y, .int .i64 dx, .int .i64 dy] 112)).alloc (.cells #[.int .i64 0, .int .i64 0, .int .i64 0, .int .i64 0] 112)).heap.size ≤ w1.heap.size := hb1.size
    simp only [World.size_alloc] at z_1
    have B_1 := ((((Below.refl w.heap.size w).alloc (by first | omega | (simp; omega) | simp) (.cells #[.int .i64 wd, .int .i64 ht, .slice A xs.length c] 36)).alloc (by first | omega | (simp; omega) | simp) (.cells #[.int .i64 x, .int .i64 y, .int .i64 dx, .int .i64 dy] 112)).alloc (by first | omega | (simp; omega) | simp) (.cells #[.int .i64 0, .int .i64 0, .int .i64 0, .int .i64 0] 112)).trans (hb1.mono (by first | omega | (simp; omega) | simp))
    obtain ⟨wka_b, wkb_b, wkc_b, wkd_b⟩ := ((wk_1).alloc (.cells #[.int .i64 X, .int .i64 Y] 110)).four
    obtain ⟨qa_b, qb_b⟩ := (Bx.new_ w1 (w1.heap.size) 110 #[.int .i64 X, .int .i64 Y] (by simp)).two
    obtain ⟨pa_b, pb_b, pc_b⟩ := ((p_1).alloc (.cells #[.int .i64 X, .int .i64 Y] 110)).three
    obtain ⟨qa_x3, qb_x3⟩ := ((Bx.new_ w1 (w1.heap.size) 110 #[.int .i64 X, .int .i64 Y] (by simp)).alloc (.cells #[.int .i64 X, .int .i64 Y, .int .i64 dx, .int .i64 dy] 112)).two
    obtain ⟨oa_x3, ob_x3, oc_x3, od_x3⟩ := (Bx.new_ (w1.alloc (.cells #[.int .i64 X, .int .i64 Y] 110)) (w1.heap.size + 1) 112 #[.int .i64 X, .int .i64 Y, .int .i64 dx, .int .i64 dy] (by simp)).four
    have of0_x3 := (Bx.new_ (w1.alloc (.cells #[.int .i64 X, .int .i64 Y] 110)) (w1.heap.size + 1) 112 #[.int .i64 X, .int .i64 Y, .int .i64 dx, .int .i64 dy] (by simp)).frozen 0
    have of1_x3 := (Bx.new_ (w1.alloc (.cells #[.int .i64 X, .int .i64 Y] 110)) (w1.heap.size + 1) 112 #[.int .i64 X, .int .i64 Y, .int .i64 dx, .int .i64 dy] (by simp)).frozen 1
    have of2_x3 := (Bx.new_ (w1.alloc (.cells #[.int .i64 X, .int .i64 Y] 110)) (w1.heap.size + 1) 112 #[.int .i64 X, .int .i64 Y, .int .i64 dx, .int .i64 dy] (by simp)).frozen 2
    have of3_x3 := (Bx.new_ (w1.alloc (.cells #[.int .i64 X, .int .i64 Y] 110)) (w1.heap.size + 1) 112 #[.int .i64 X, .int .i64 Y, .int .i64 dx, .int .i64 dy] (by simp)).frozen 3
    obtain ⟨wka_x3, wkb_x3, wkc_x3, wkd_x3⟩ := (((wk_1).alloc (.cells #[.int .i64 X, .int .i64 Y] 110)).alloc (.cells #[.int .i64 X, .int .i64 Y, .int .i64 dx, .int .i64 dy] 112)).four
    obtain ⟨pa_x3, pb_x3, pc_x3⟩ := (((p_1).alloc (.cells #[.int .i64 X, .int .i64 Y] 110)).alloc (.cells #[.int .i64 X, .int .i64 Y, .int .i64 dx, .int .i64 dy] 112)).three
    go_wp2_with fail
    refine ((isBorder_any wd ht X Y A c xs _ hsz.out)).mono ?_
    rintro e w3 ⟨rfl, hb3⟩
    have p_3 := (((p_1).alloc (.cells #[.int .i64 X, .int .i64 Y] 110)).alloc (.cells #[.int .i64 X, .int .i64 Y, .int .i64 dx, .int .i64 dy] 112)).below hb3
    obtain ⟨pa_3, pb_3, pc_3⟩ := (p_3).three
    have wk_3 := (((wk_1).alloc (.cells #[.int .i64 X, .int .i64 Y] 110)).alloc (.cells #[.int .i64 X, .int .i64 Y, .int .i64 dx, .int .i64 dy] 112)).below hb3
    obtain ⟨wka_3, wkb_3, wkc_3, wkd_3⟩ := (wk_3).four
    have r_3 := (((r_1).alloc (.cells #[.int .i64 X, .int .i64 Y] 110)).alloc (.cells #[.int .i64 X, .int .i64 Y, .int .i64 dx, .int .i64 dy] 112)).below hb3
    obtain ⟨ra_3, rb_3, rc_3, rd_3⟩ := (r_3).four
    have rf0_3 := (r_3).frozen 0
    have rf1_3 := (r_3).frozen 1
    have rf2_3 := (r_3).frozen 2
    have rf3_3 := (r_3).frozen 3
    have q_3 := ((Bx.new_ w1 (w1.heap.size) 110 #[.int .i64 X, .int .i64 Y] (by simp)).alloc (.cells #[.int .i64 X, .int .i64 Y, .int .i64 dx, .int .i64 dy] 112)).below hb3
    obtain ⟨qa_3, qb_3⟩ := (q_3).two
    have o_3 := (Bx.new_ (w1.alloc (.cells #[.int .i64 X, .int .i64 Y] 110)) (w1.heap.size + 1) 112 #[.int .i64 X, .int .i64 Y, .int .i64 dx, .int .i64 dy] (by simp)).below hb3
    obtain ⟨oa_3, ob_3, oc_3, od_3⟩ := (o_3).four
    have of0_3 := (o_3).frozen 0
    have of1_3 := (o_3).frozen 1
    have of2_3 := (o_3).frozen 2
    have of3_3 := (o_3).frozen 3
    have z_3 : ((w1.alloc (.cells #[.int .i64 X, .int .i64 Y] 110)).alloc (.cells #[.int .i64 X, .int .i64 Y, .int .i64 dx, .int .i64 dy] 112)).heap.size ≤ w3.heap.size := hb3.size
    simp only [World.size_alloc] at z_3
    have B_3 := (((B_1).alloc (by first | omega | (simp; omega) | simp) (.cells #[.int .i64 X, .int .i64 Y] 110)).alloc (by first | omega | (simp; omega) | simp) (.cells #[.int .i64 X, .int .i64 Y, .int .i64 dx, .int .i64 dy] 112)).trans (hb3.mono (by first | omega | (simp; omega) | simp))
    rw [hE.out]
    obtain ⟨ra_c, rb_c, rc_c, rd_c⟩ := (r_3).four
    have rf0_c := (r_3).frozen 0
    have rf1_c := (r_3).frozen 1
    have rf2_c := (r_3).frozen 2
    have rf3_c := (r_3).frozen 3
    obtain ⟨oa_c, ob_c, oc_c, od_c⟩ := (o_3).four
    have of0_c := (o_3).frozen 0
    have of1_c := (o_3).frozen 1
    have of2_c := (o_3).frozen 2
    have of3_c := (o_3).frozen 3
    obtain ⟨qa_c, qb_c⟩ := (q_3).two
    obtain ⟨pa_c, pb_c, pc_c⟩ := (p_3).three
    obtain ⟨wka_c, wkb_c, wkc_c, wkd_c⟩ := (wk_3).four
    obtain ⟨oa_x5, ob_x5, oc_x5, od_x5⟩ := ((o_3).set_ 3 (.int .i64 (-dy))).four
    have of0_x5 := ((o_3).set_ 3 (.int .i64 (-dy))).frozen 0
    have of1_x5 := ((o_3).set_ 3 (.int .i64 (-dy))).frozen 1
    have of2_x5 := ((o_3).set_ 3 (.int .i64 (-dy))).frozen 2
    have of3_x5 := ((o_3).set_ 3 (.int .i64 (-dy))).frozen 3
    obtain ⟨qa_x5, qb_x5⟩ := ((q_3).far (p := ⟨(w1.heap.size + 1), 3, none⟩) (by first | omega | (simp; omega) | simp) (.int .i64 (-dy))).two
    obtain ⟨pa_x5, pb_x5, pc_x5⟩ := ((p_3).far (p := ⟨(w1.heap.size + 1), 3, none⟩) (by first | omega | (simp; omega) | simp) (.int .i64 (-dy))).three
    obtain ⟨wka_x5, wkb_x5, wkc_x5, wkd_x5⟩ := ((wk_3).far (p := ⟨(w1.heap.size + 1), 3, none⟩) (by first | omega | (simp; omega) | simp) (.int .i64 (-dy))).four
    obtain ⟨ra_x5, rb_x5, rc_x5, rd_x5⟩ := ((r_3).far (p := ⟨(w1.heap.size + 1), 3, none⟩) (by first | omega | (simp; omega) | simp) (.int .i64 (-dy))).four
    have rf0_x5 := ((r_3).far (p := ⟨(w1.heap.size + 1), 3, none⟩) (by first | omega | (simp; omega) | simp) (.int .i64 (-dy))).frozen 0
    have rf1_x5 := ((r_3).far (p := ⟨(w1.heap.size + 1), 3, none⟩) (by first | omega | (simp; omega) | simp) (.int .i64 (-dy))).frozen 1
    have rf2_x5 := ((r_3).far (p := ⟨(w1.heap.size + 1), 3, none⟩) (by first | omega | (simp; omega) | simp) (.int .i64 (-dy))).frozen 2
    have rf3_x5 := ((r_3).far (p := ⟨(w1.heap.size + 1), 3, none⟩) (by first | omega | (simp; omega) | simp) (.int .i64 (-dy))).frozen 3
    obtain ⟨ra_x6, rb_x6, rc_x6, rd_x6⟩ := (((r_3).far (p := ⟨(w1.heap.size + 1), 3, none⟩) (by first | omega | (simp; omega) | simp) (.int .i64 (-dy))).set_ 0 (.int .i64 (X))).four
    have rf0_x6 := (((r_3).far (p := ⟨(w1.heap.size + 1), 3, none⟩) (by first | omega | (simp; omega) | simp) (.int .i64 (-dy))).set_ 0 (.int .i64 (X))).frozen 0
    have rf1_x6 := (((r_3).far (p := ⟨(w1.heap.size + 1), 3, none⟩) (by first | omega | (simp; omega) | simp) (.int .i64 (-dy))).set_ 0 (.int .i64 (X))).frozen 1
    have rf2_x6 := (((r_3).far (p := ⟨(w1.heap.size + 1), 3, none⟩) (by first | omega | (simp; omega) | simp) (.int .i64 (-dy))).set_ 0 (.int .i64 (X))).frozen 2
    have rf3_x6 := (((r_3).far (p := ⟨(w1.heap.size + 1), 3, none⟩) (by first | omega | (simp; omega) | simp) (.int .i64 (-dy))).set_ 0 (.int .i64 (X))).frozen 3
    obtain ⟨ra_x7, rb_x7, rc_x7, rd_x7⟩ := ((((r_3).far (p := ⟨(w1.heap.size + 1), 3, none⟩) (by first | omega | (simp; omega) | simp) (.int .i64 (-dy))).set_ 0 (.int .i64 (X))).set_ 1 (.int .i64 (Y))).four
    have rf0_x7 := ((((r_3).far (p := ⟨(w1.heap.size + 1), 3, none⟩) (by first | omega | (simp; omega) | simp) (.int .i64 (-dy))).set_ 0 (.int .i64 (X))).set_ 1 (.int .i64 (Y))).frozen 0
    have rf1_x7 := ((((r_3).far (p := ⟨(w1.heap.size + 1), 3, none⟩) (by first | omega | (simp; omega) | simp) (.int .i64 (-dy))).set_ 0 (.int .i64 (X))).set_ 1 (.int .i64 (Y))).frozen 1
    have rf2_x7 := ((((r_3).far (p := ⟨(w1.heap.size + 1), 3, none⟩) (by first | omega | (simp; omega) | simp) (.int .i64 (-dy))).set_ 0 (.int .i64 (X))).set_ 1 (.int .i64 (Y))).frozen 2
    have rf3_x7 := ((((r_3).far (p := ⟨(w1.heap.size + 1), 3, none⟩) (by first | omega | (simp; omega) | simp) (.int .i64 (-dy))).set_ 0 (.int .i64 (X))).set_ 1 (.int .i64 (Y))).frozen 3
    obtain ⟨ra_x8, rb_x8, rc_x8, rd_x8⟩ := (((((r_3).far (p := ⟨(w1.heap.size + 1), 3, none⟩) (by first | omega | (simp; omega) | simp) (.int .i64 (-dy))).set_ 0 (.int .i64 (X))).set_ 1 (.int .i64 (Y))).set_ 2 (.int .i64 (dx))).four
    have rf0_x8 := (((((r_3).far (p := ⟨(w1.heap.size + 1), 3, none⟩) (by first | omega | (simp; omega) | simp) (.int .i64 (-dy))).set_ 0 (.int .i64 (X))).set_ 1 (.int .i64 (Y))).set_ 2 (.int .i64 (dx))).frozen 0
    have rf1_x8 := (((((r_3).far (p := ⟨(w1.heap.size + 1), 3, none⟩) (by first | omega | (simp; omega) | simp) (.int .i64 (-dy))).set_ 0 (.int .i64 (X))).set_ 1 (.int .i64 (Y))).set_ 2 (.int .i64 (dx))).frozen 1
    have rf2_x8 := (((((r_3).far (p := ⟨(w1.heap.size + 1), 3, none⟩) (by first | omega | (simp; omega) | simp) (.int .i64 (-dy))).set_ 0 (.int .i64 (X))).set_ 1 (.int .i64 (Y))).set_ 2 (.int .i64 (dx))).frozen 2
    have rf3_x8 := (((((r_3).far (p := ⟨(w1.heap.size + 1), 3, none⟩) (by first | omega | (simp; omega) | simp) (.int .i64 (-dy))).set_ 0 (.int .i64 (X))).set_ 1 (.int .i64 (Y))).set_ 2 (.int .i64 (dx))).frozen 3
    obtain ⟨ra_x9, rb_x9, rc_x9, rd_x9⟩ := ((((((r_3).far (p := ⟨(w1.heap.size + 1), 3, none⟩) (by first | omega | (simp; omega) | simp) (.int .i64 (-dy))).set_ 0 (.int .i64 (X))).set_ 1 (.int .i64 (Y))).set_ 2 (.int .i64 (dx))).set_ 3 (.int .i64 (-dy))).four
    have rf0_x9 := ((((((r_3).far (p := ⟨(w1.heap.size + 1), 3, none⟩) (by first | omega | (simp; omega) | simp) (.int .i64 (-dy))).set_ 0 (.int .i64 (X))).set_ 1 (.int .i64 (Y))).set_ 2 (.int .i64 (dx))).set_ 3 (.int .i64 (-dy))).frozen 0
    have rf1_x9 := ((((((r_3).far (p := ⟨(w1.heap.size + 1), 3, none⟩) (by first | omega | (simp; omega) | simp) (.int .i64 (-dy))).set_ 0 (.int .i64 (X))).set_ 1 (.int .i64 (Y))).set_ 2 (.int .i64 (dx))).set_ 3 (.int .i64 (-dy))).frozen 1
    have rf2_x9 := ((((((r_3).far (p := ⟨(w1.heap.size + 1), 3, none⟩) (by first | omega | (simp; omega) | simp) (.int .i64 (-dy))).set_ 0 (.int .i64 (X))).set_ 1 (.int .i64 (Y))).set_ 2 (.int .i64 (dx))).set_ 3 (.int .i64 (-dy))).frozen 2
    have rf3_x9 := ((((((r_3).far (p := ⟨(w1.heap.size + 1), 3, none⟩) (by first | omega | (simp; omega) | simp) (.int .i64 (-dy))).set_ 0 (.int .i64 (X))).set_ 1 (.int .i64 (Y))).set_ 2 (.int .i64 (dx))).set_ 3 (.int .i64 (-dy))).frozen 3
    go_wp2_with fail
    go_region
    go_wp2_with fail
    obtain ⟨ra_z, rb_z, rc_z, rd_z⟩ := ((((((r_3).far (p := ⟨(w1.heap.size + 1), 3, none⟩) (by first | omega | (simp; omega) | simp) (.int .i64 (-dy))).set_ 0 (.int .i64 (X))).set_ 1 (.int .i64 (Y))).set_ 2 (.int .i64 (dx))).set_ 3 (.int .i64 (-dy))).four
    have rf0_z := ((((((r_3).far (p := ⟨(w1.heap.size + 1), 3, none⟩) (by first | omega | (simp; omega) | simp) (.int .i64 (-dy))).set_ 0 (.int .i64 (X))).set_ 1 (.int .i64 (Y))).set_ 2 (.int .i64 (dx))).set_ 3 (.int .i64 (-dy))).frozen 0
    have rf1_z := ((((((r_3).far (p := ⟨(w1.heap.size + 1), 3, none⟩) (by first | omega | (simp; omega) | simp) (.int .i64 (-dy))).set_ 0 (.int .i64 (X))).set_ 1 (.int .i64 (Y))).set_ 2 (.int .i64 (dx))).set_ 3 (.int .i64 (-dy))).frozen 1
    have rf2_z := ((((((r_3).far (p := ⟨(w1.heap.size + 1), 3, none⟩) (by first | omega | (simp; omega) | simp) (.int .i64 (-dy))).set_ 0 (.int .i64 (X))).set_ 1 (.int .i64 (Y))).set_ 2 (.int .i64 (dx))).set_ 3 (.int .i64 (-dy))).frozen 2
    have rf3_z := ((((((r_3).far (p := ⟨(w1.heap.size + 1), 3, none⟩) (by first | omega | (simp; omega) | simp) (.int .i64 (-dy))).set_ 0 (.int .i64 (X))).set_ 1 (.int .i64 (Y))).set_ 2 (.int .i64 (dx))).set_ 3 (.int .i64 (-dy))).frozen 3
    refine bodyPost_ret (v := .tuple #[.agg #[.int .i64 X, .int .i64 Y, .int .i64 (dx), .int .i64 (-dy)], .bool true]) (by simp [results, Try.results114, go_sem, ra_z, rb_z, rc_z, rd_z]) rfl ?_
    exact ⟨_, rfl, (((((((B_3).setCell (p := ⟨(w1.heap.size + 1), 3, none⟩) (by first | omega | (simp; omega) | simp) (.int .i64 (-dy))).setCell (p := ⟨(w.heap.size + 1 + 1), 0, none⟩) (by first | omega | (simp; omega) | simp) (.int .i64 (X))).setCell (p := ⟨(w.heap.size + 1 + 1), 1, none⟩) (by first | omega | (simp; omega) | simp) (.int .i64 (Y))).setCell (p := ⟨(w.heap.size + 1 + 1), 2, none⟩) (by first | omega | (simp; omega) | simp) (.int .i64 (dx))).setCell (p := ⟨(w.heap.size + 1 + 1), 3, none⟩) (by first | omega | (simp; omega) | simp) (.int .i64 (-dy)))).drew⟩
  · intro h1 h2 h3 h4 he
    have hkE := hide (inner_at (xs := xs) hsz.out hON.out)
    have hE := hide (edge_true he)
    clear hkE he ha
    obtain ⟨x, y, dx, dy⟩ := a
    simp only [Wk.nx, Wk.ny] at *
    generalize hX : x + dx = X at *
    generalize hY : y + dy = Y at *
    have HXY := hide (And.intro hX hY)
    clear hX hY
    have ex0 : (X == 0) = false := eqf (by omega)
    have dx0 := dec_of ex0
    have ex2 : (X == 2 * wd) = false := eqf (by omega)
    have dx2 := dec_of ex2
    have ey0 : (Y == 0) = false := eqf (by omega)
    have dy0 := dec_of ey0
    have ey2 : (Y == 2 * ht) = true := eqt (by omega)
    have dy2 := dec_of ey2
    clear h1 h2 h3 h4
    obtain ⟨s1, s2, s3, s4⟩ := hsz.out
    have b1 : (-dx != dx) = true := by rcases g5 with rfl | rfl <;> rfl
    have b2 : (-dy != dy) = true := by rcases g6 with rfl | rfl <;> rfl
    have b3 : (dx != dx) = false := by simp
    have b4 : (dy != dy) = false := by simp
    obtain ⟨wka_x1, wkb_x1, wkc_x1, wkd_x1⟩ := ((Bx.new_ (w.alloc (.cells #[.int .i64 wd, .int .i64 ht, .slice A xs.length c] 36)) (w.heap.size + 1) 112 #[.int .i64 x, .int .i64 y, .int .i64 dx, .int .i64 dy] (by simp)).alloc (.cells #[.int .i64 0, .int .i64 0, .int .i64 0, .int .i64 0] 112)).four
    obtain ⟨pa_x1, pb_x1, pc_x1⟩ := (((Bx.new_ w (w.heap.size) 36 #[.int .i64 wd, .int .i64 ht, .slice A xs.length c] (by simp)).alloc (.cells #[.int .i64 x, .int .i64 y, .int .i64 dx, .int .i64 dy] 112)).alloc (.cells #[.int .i64 0, .int .i64 0, .int .i64 0, .int .i64 0] 112)).three
    go_enter Try.func114, Try.ntmps114
    go_wp2_with fail
    refine ((HX.out _)).mono ?_
    rintro e w1 ⟨rfl, hb1⟩
    have p_1 := (((Bx.new_ w (w.heap.size) 36 #[.int .i64 wd, .int .i64 ht, .slice A xs.length c] (by simp)).alloc (.cells #[.int .i64 x, .int .i64 y, .int .i64 dx, .int .i64 dy] 112)).alloc (.cells #[.int .i64 0, .int .i64 0, .int .i64 0, .int .i64 0] 112)).below hb1
    obtain ⟨pa_1, pb_1, pc_1⟩ := (p_1).three
    have wk_1 := ((Bx.new_ (w.alloc (.cells #[.int .i64 wd, .int .i64 ht, .slice A xs.length c] 36)) (w.heap.size + 1) 112 #[.int .i64 x, .int .i64 y, .int .i64 dx, .int .i64 dy] (by simp)).alloc (.cells #[.int .i64 0, .int .i64 0, .int .i64 0, .int .i64 0] 112)).below hb1
    obtain ⟨wka_1, wkb_1, wkc_1, wkd_1⟩ := (wk_1).four
    have r_1 := (Bx.new_ ((w.alloc (.cells #[.int .i64 wd, .int .i64 ht, .slice A xs.length c] 36)).alloc (.cells #[.int .i64 x, .int .i64 y, .int .i64 dx, .int .i64 dy] 112)) (w.heap.size + 1 + 1) 112 #[.int .i64 0, .int .i64 0, .int .i64 0, .int .i64 0] (by simp)).below hb1
    obtain ⟨ra_1, rb_1, rc_1, rd_1⟩ := (r_1).four
    have rf0_1 := (r_1).frozen 0
    have rf1_1 := (r_1).frozen 1
    have rf2_1 := (r_1).frozen 2
    have rf3_1 := (r_1).frozen 3
    have z_1 : (((w.alloc (.cells #[.int .i64 wd, .int .i64 ht, .slice A xs.length c] 36)).alloc (.cells #[.int .i64 x, .int .i64 y, .int .i64 dx, .int .i64 dy] 112)).alloc (.cells #[.int .i64 0, .int .i64 0, .int .i64 0, .int .i64 0] 112)).heap.size ≤ w1.heap.size := hb1.size
    simp only [World.size_alloc] at z_1
    have B_1 := ((((Below.refl w.heap.size w).alloc (by first | omega | (simp; omega) | simp) (.cells #[.int .i64 wd, .int .i64 ht, .slice A xs.length c] 36)).alloc (by first | omega | (simp; omega) | simp) (.cells #[.int .i64 x, .int .i64 y, .int .i64 dx, .int .i64 dy] 112)).alloc (by first | omega | (simp; omega) | simp) (.cells #[.int .i64 0, .int .i64 0, .int .i64 0, .int .i64 0] 112)).trans (hb1.mono (by first | omega | (simp; omega) | simp))
    obtain ⟨wka_b, wkb_b, wkc_b, wkd_b⟩ := ((wk_1).alloc (.cells #[.int .i64 X, .int .i64 Y] 110)).four
    obtain ⟨qa_b, qb_b⟩ := (Bx.new_ w1 (w1.heap.size) 110 #[.int .i64 X, .int .i64 Y] (by simp)).two
    obtain ⟨pa_b, pb_b, pc_b⟩ := ((p_1).alloc (.cells #[.int .i64 X, .int .i64 Y] 110)).three
    obtain ⟨qa_x3, qb_x3⟩ := ((Bx.new_ w1 (w1.heap.size) 110 #[.int .i64 X, .int .i64 Y] (by simp)).alloc (.cells #[.int .i64 X, .int .i64 Y, .int .i64 dx, .int .i64 dy] 112)).two
    obtain ⟨oa_x3, ob_x3, oc_x3, od_x3⟩ := (Bx.new_ (w1.alloc (.cells #[.int .i64 X, .int .i64 Y] 110)) (w1.heap.size + 1) 112 #[.int .i64 X, .int .i64 Y, .int .i64 dx, .int .i64 dy] (by simp)).four
    have of0_x3 := (Bx.new_ (w1.alloc (.cells #[.int .i64 X, .int .i64 Y] 110)) (w1.heap.size + 1) 112 #[.int .i64 X, .int .i64 Y, .int .i64 dx, .int .i64 dy] (by simp)).frozen 0
    have of1_x3 := (Bx.new_ (w1.alloc (.cells #[.int .i64 X, .int .i64 Y] 110)) (w1.heap.size + 1) 112 #[.int .i64 X, .int .i64 Y, .int .i64 dx, .int .i64 dy] (by simp)).frozen 1
    have of2_x3 := (Bx.new_ (w1.alloc (.cells #[.int .i64 X, .int .i64 Y] 110)) (w1.heap.size + 1) 112 #[.int .i64 X, .int .i64 Y, .int .i64 dx, .int .i64 dy] (by simp)).frozen 2
    have of3_x3 := (Bx.new_ (w1.alloc (.cells #[.int .i64 X, .int .i64 Y] 110)) (w1.heap.size + 1) 112 #[.int .i64 X, .int .i64 Y, .int .i64 dx, .int .i64 dy] (by simp)).frozen 3
    obtain ⟨wka_x3, wkb_x3, wkc_x3, wkd_x3⟩ := (((wk_1).alloc (.cells #[.int .i64 X, .int .i64 Y] 110)).alloc (.cells #[.int .i64 X, .int .i64 Y, .int .i64 dx, .int .i64 dy] 112)).four
    obtain ⟨pa_x3, pb_x3, pc_x3⟩ := (((p_1).alloc (.cells #[.int .i64 X, .int .i64 Y] 110)).alloc (.cells #[.int .i64 X, .int .i64 Y, .int .i64 dx, .int .i64 dy] 112)).three
    go_wp2_with fail
    refine ((isBorder_any wd ht X Y A c xs _ hsz.out)).mono ?_
    rintro e w3 ⟨rfl, hb3⟩
    have p_3 := (((p_1).alloc (.cells #[.int .i64 X, .int .i64 Y] 110)).alloc (.cells #[.int .i64 X, .int .i64 Y, .int .i64 dx, .int .i64 dy] 112)).below hb3
    obtain ⟨pa_3, pb_3, pc_3⟩ := (p_3).three
    have wk_3 := (((wk_1).alloc (.cells #[.int .i64 X, .int .i64 Y] 110)).alloc (.cells #[.int .i64 X, .int .i64 Y, .int .i64 dx, .int .i64 dy] 112)).below hb3
    obtain ⟨wka_3, wkb_3, wkc_3, wkd_3⟩ := (wk_3).four
    have r_3 := (((r_1).alloc (.cells #[.int .i64 X, .int .i64 Y] 110)).alloc (.cells #[.int .i64 X, .int .i64 Y, .int .i64 dx, .int .i64 dy] 112)).below hb3
    obtain ⟨ra_3, rb_3, rc_3, rd_3⟩ := (r_3).four
    have rf0_3 := (r_3).frozen 0
    have rf1_3 := (r_3).frozen 1
    have rf2_3 := (r_3).frozen 2
    have rf3_3 := (r_3).frozen 3
    have q_3 := ((Bx.new_ w1 (w1.heap.size) 110 #[.int .i64 X, .int .i64 Y] (by simp)).alloc (.cells #[.int .i64 X, .int .i64 Y, .int .i64 dx, .int .i64 dy] 112)).below hb3
    obtain ⟨qa_3, qb_3⟩ := (q_3).two
    have o_3 := (Bx.new_ (w1.alloc (.cells #[.int .i64 X, .int .i64 Y] 110)) (w1.heap.size + 1) 112 #[.int .i64 X, .int .i64 Y, .int .i64 dx, .int .i64 dy] (by simp)).below hb3
    obtain ⟨oa_3, ob_3, oc_3, od_3⟩ := (o_3).four
    have of0_3 := (o_3).frozen 0
    have of1_3 := (o_3).frozen 1
    have of2_3 := (o_3).frozen 2
    have of3_3 := (o_3).frozen 3
    have z_3 : ((w1.alloc (.cells #[.int .i64 X, .int .i64 Y] 110)).alloc (.cells #[.int .i64 X, .int .i64 Y, .int .i64 dx, .int .i64 dy] 112)).heap.size ≤ w3.heap.size := hb3.size
    simp only [World.size_alloc] at z_3
    have B_3 := (((B_1).alloc (by first | omega | (simp; omega) | simp) (.cells #[.int .i64 X, .int .i64 Y] 110)).alloc (by first | omega | (simp; omega) | simp) (.cells #[.int .i64 X, .int .i64 Y, .int .i64 dx, .int .i64 dy] 112)).trans (hb3.mono (by first | omega | (simp; omega) | simp))
    rw [hE.out]
    obtain ⟨ra_c, rb_c, rc_c, rd_c⟩ := (r_3).four
    have rf0_c := (r_3).frozen 0
    have rf1_c := (r_3).frozen 1
    have rf2_c := (r_3).frozen 2
    have rf3_c := (r_3).frozen 3
    obtain ⟨oa_c, ob_c, oc_c, od_c⟩ := (o_3).four
    have of0_c := (o_3).frozen 0
    have of1_c := (o_3).frozen 1
    have of2_c := (o_3).frozen 2
    have of3_c := (o_3).frozen 3
    obtain ⟨qa_c, qb_c⟩ := (q_3).two
    obtain ⟨pa_c, pb_c, pc_c⟩ := (p_3).three
    obtain ⟨wka_c, wkb_c, wkc_c, wkd_c⟩ := (wk_3).four
    obtain ⟨oa_x5, ob_x5, oc_x5, od_x5⟩ := ((o_3).set_ 3 (.int .i64 (-dy))).four
    have of0_x5 := ((o_3).set_ 3 (.int .i64 (-dy))).frozen 0
    have of1_x5 := ((o_3).set_ 3 (.int .i64 (-dy))).frozen 1
    have of2_x5 := ((o_3).set_ 3 (.int .i64 (-dy))).frozen 2
    have of3_x5 := ((o_3).set_ 3 (.int .i64 (-dy))).frozen 3
    obtain ⟨qa_x5, qb_x5⟩ := ((q_3).far (p := ⟨(w1.heap.size + 1), 3, none⟩) (by first | omega | (simp; omega) | simp) (.int .i64 (-dy))).two
    obtain ⟨pa_x5, pb_x5, pc_x5⟩ := ((p_3).far (p := ⟨(w1.heap.size + 1), 3, none⟩) (by first | omega | (simp; omega) | simp) (.int .i64 (-dy))).three
    obtain ⟨wka_x5, wkb_x5, wkc_x5, wkd_x5⟩ := ((wk_3).far (p := ⟨(w1.heap.size + 1), 3, none⟩) (by first | omega | (simp; omega) | simp) (.int .i64 (-dy))).four
    obtain ⟨ra_x5, rb_x5, rc_x5, rd_x5⟩ := ((r_3).far (p := ⟨(w1.heap.size + 1), 3, none⟩) (by first | omega | (simp; omega) | simp) (.int .i64 (-dy))).four
    have rf0_x5 := ((r_3).far (p := ⟨(w1.heap.size + 1), 3, none⟩) (by first | omega | (simp; omega) | simp) (.int .i64 (-dy))).frozen 0
    have rf1_x5 := ((r_3).far (p := ⟨(w1.heap.size + 1), 3, none⟩) (by first | omega | (simp; omega) | simp) (.int .i64 (-dy))).frozen 1
    have rf2_x5 := ((r_3).far (p := ⟨(w1.heap.size + 1), 3, none⟩) (by first | omega | (simp; omega) | simp) (.int .i64 (-dy))).frozen 2
    have rf3_x5 := ((r_3).far (p := ⟨(w1.heap.size + 1), 3, none⟩) (by first | omega | (simp; omega) | simp) (.int .i64 (-dy))).frozen 3
    obtain ⟨ra_x6, rb_x6, rc_x6, rd_x6⟩ := (((r_3).far (p := ⟨(w1.heap.size + 1), 3, none⟩) (by first | omega | (simp; omega) | simp) (.int .i64 (-dy))).set_ 0 (.int .i64 (X))).four
    have rf0_x6 := (((r_3).far (p := ⟨(w1.heap.size + 1), 3, none⟩) (by first | omega | (simp; omega) | simp) (.int .i64 (-dy))).set_ 0 (.int .i64 (X))).frozen 0
    have rf1_x6 := (((r_3).far (p := ⟨(w1.heap.size + 1), 3, none⟩) (by first | omega | (simp; omega) | simp) (.int .i64 (-dy))).set_ 0 (.int .i64 (X))).frozen 1
    have rf2_x6 := (((r_3).far (p := ⟨(w1.heap.size + 1), 3, none⟩) (by first | omega | (simp; omega) | simp) (.int .i64 (-dy))).set_ 0 (.int .i64 (X))).frozen 2
    have rf3_x6 := (((r_3).far (p := ⟨(w1.heap.size + 1), 3, none⟩) (by first | omega | (simp; omega) | simp) (.int .i64 (-dy))).set_ 0 (.int .i64 (X))).frozen 3
    obtain ⟨ra_x7, rb_x7, rc_x7, rd_x7⟩ := ((((r_3).far (p := ⟨(w1.heap.size + 1), 3, none⟩) (by first | omega | (simp; omega) | simp) (.int .i64 (-dy))).set_ 0 (.int .i64 (X))).set_ 1 (.int .i64 (Y))).four
    have rf0_x7 := ((((r_3).far (p := ⟨(w1.heap.size + 1), 3, none⟩) (by first | omega | (simp; omega) | simp) (.int .i64 (-dy))).set_ 0 (.int .i64 (X))).set_ 1 (.int .i64 (Y))).frozen 0
    have rf1_x7 := ((((r_3).far (p := ⟨(w1.heap.size + 1), 3, none⟩) (by first | omega | (simp; omega) | simp) (.int .i64 (-dy))).set_ 0 (.int .i64 (X))).set_ 1 (.int .i64 (Y))).frozen 1
    have rf2_x7 := ((((r_3).far (p := ⟨(w1.heap.size + 1), 3, none⟩) (by first | omega | (simp; omega) | simp) (.int .i64 (-dy))).set_ 0 (.int .i64 (X))).set_ 1 (.int .i64 (Y))).frozen 2
    have rf3_x7 := ((((r_3).far (p := ⟨(w1.heap.size + 1), 3, none⟩) (by first | omega | (simp; omega) | simp) (.int .i64 (-dy))).set_ 0 (.int .i64 (X))).set_ 1 (.int .i64 (Y))).frozen 3
    obtain ⟨ra_x8, rb_x8, rc_x8, rd_x8⟩ := (((((r_3).far (p := ⟨(w1.heap.size + 1), 3, none⟩) (by first | omega | (simp; omega) | simp) (.int .i64 (-dy))).set_ 0 (.int .i64 (X))).set_ 1 (.int .i64 (Y))).set_ 2 (.int .i64 (dx))).four
    have rf0_x8 := (((((r_3).far (p := ⟨(w1.heap.size + 1), 3, none⟩) (by first | omega | (simp; omega) | simp) (.int .i64 (-dy))).set_ 0 (.int .i64 (X))).set_ 1 (.int .i64 (Y))).set_ 2 (.int .i64 (dx))).frozen 0
    have rf1_x8 := (((((r_3).far (p := ⟨(w1.heap.size + 1), 3, none⟩) (by first | omega | (simp; omega) | simp) (.int .i64 (-dy))).set_ 0 (.int .i64 (X))).set_ 1 (.int .i64 (Y))).set_ 2 (.int .i64 (dx))).frozen 1
    have rf2_x8 := (((((r_3).far (p := ⟨(w1.heap.size + 1), 3, none⟩) (by first | omega | (simp; omega) | simp) (.int .i64 (-dy))).set_ 0 (.int .i64 (X))).set_ 1 (.int .i64 (Y))).set_ 2 (.int .i64 (dx))).frozen 2
    have rf3_x8 := (((((r_3).far (p := ⟨(w1.heap.size + 1), 3, none⟩) (by first | omega | (simp; omega) | simp) (.int .i64 (-dy))).set_ 0 (.int .i64 (X))).set_ 1 (.int .i64 (Y))).set_ 2 (.int .i64 (dx))).frozen 3
    obtain ⟨ra_x9, rb_x9, rc_x9, rd_x9⟩ := ((((((r_3).far (p := ⟨(w1.heap.size + 1), 3, none⟩) (by first | omega | (simp; omega) | simp) (.int .i64 (-dy))).set_ 0 (.int .i64 (X))).set_ 1 (.int .i64 (Y))).set_ 2 (.int .i64 (dx))).set_ 3 (.int .i64 (-dy))).four
    have rf0_x9 := ((((((r_3).far (p := ⟨(w1.heap.size + 1), 3, none⟩) (by first | omega | (simp; omega) | simp) (.int .i64 (-dy))).set_ 0 (.int .i64 (X))).set_ 1 (.int .i64 (Y))).set_ 2 (.int .i64 (dx))).set_ 3 (.int .i64 (-dy))).frozen 0
    have rf1_x9 := ((((((r_3).far (p := ⟨(w1.heap.size + 1), 3, none⟩) (by first | omega | (simp; omega) | simp) (.int .i64 (-dy))).set_ 0 (.int .i64 (X))).set_ 1 (.int .i64 (Y))).set_ 2 (.int .i64 (dx))).set_ 3 (.int .i64 (-dy))).frozen 1
    have rf2_x9 := ((((((r_3).far (p := ⟨(w1.heap.size + 1), 3, none⟩) (by first | omega | (simp; omega) | simp) (.int .i64 (-dy))).set_ 0 (.int .i64 (X))).set_ 1 (.int .i64 (Y))).set_ 2 (.int .i64 (dx))).set_ 3 (.int .i64 (-dy))).frozen 2
    have rf3_x9 := ((((((r_3).far (p := ⟨(w1.heap.size + 1), 3, none⟩) (by first | omega | (simp; omega) | simp) (.int .i64 (-dy))).set_ 0 (.int .i64 (X))).set_ 1 (.int .i64 (Y))).set_ 2 (.int .i64 (dx))).set_ 3 (.int .i64 (-dy))).frozen 3
    go_wp2_with fail
    go_region
    go_wp2_with fail
    obtain ⟨ra_z, rb_z, rc_z, rd_z⟩ := ((((((r_3).far (p := ⟨(w1.heap.size + 1), 3, none⟩) (by first | omega | (simp; omega) | simp) (.int .i64 (-dy))).set_ 0 (.int .i64 (X))).set_ 1 (.int .i64 (Y))).set_ 2 (.int .i64 (dx))).set_ 3 (.int .i64 (-dy))).four
    have rf0_z := ((((((r_3).far (p := ⟨(w1.heap.size + 1), 3, none⟩) (by first | omega | (simp; omega) | simp) (.int .i64 (-dy))).set_ 0 (.int .i64 (X))).set_ 1 (.int .i64 (Y))).set_ 2 (.int .i64 (dx))).set_ 3 (.int .i64 (-dy))).frozen 0
    have rf1_z := ((((((r_3).far (p := ⟨(w1.heap.size + 1), 3, none⟩) (by first | omega | (simp; omega) | simp) (.int .i64 (-dy))).set_ 0 (.int .i64 (X))).set_ 1 (.int .i64 (Y))).set_ 2 (.int .i64 (dx))).set_ 3 (.int .i64 (-dy))).frozen 1
    have rf2_z := ((((((r_3).far (p := ⟨(w1.heap.size + 1), 3, none⟩) (by first | omega | (simp; omega) | simp) (.int .i64 (-dy))).set_ 0 (.int .i64 (X))).set_ 1 (.int .i64 (Y))).set_ 2 (.int .i64 (dx))).set_ 3 (.int .i64 (-dy))).frozen 2
    have rf3_z := ((((((r_3).far (p := ⟨(w1.heap.size + 1), 3, none⟩) (by first | omega | (simp; omega) | simp) (.int .i64 (-dy))).set_ 0 (.int .i64 (X))).set_ 1 (.int .i64 (Y))).set_ 2 (.int .i64 (dx))).set_ 3 (.int .i64 (-dy))).frozen 3
    refine bodyPost_ret (v := .tuple #[.agg #[.int .i64 X, .int .i64 Y, .int .i64 (dx), .int .i64 (-dy)], .bool true]) (by simp [results, Try.results114, go_sem, ra_z, rb_z, rc_z, rd_z]) rfl ?_
    exact ⟨_, rfl, (((((((B_3).setCell (p := ⟨(w1.heap.size + 1), 3, none⟩) (by first | omega | (simp; omega) | simp) (.int .i64 (-dy))).setCell (p := ⟨(w.heap.size + 1 + 1), 0, none⟩) (by first | omega | (simp; omega) | simp) (.int .i64 (X))).setCell (p := ⟨(w.heap.size + 1 + 1), 1, none⟩) (by first | omega | (simp; omega) | simp) (.int .i64 (Y))).setCell (p := ⟨(w.heap.size + 1 + 1), 2, none⟩) (by first | omega | (simp; omega) | simp) (.int .i64 (dx))).setCell (p := ⟨(w.heap.size + 1 + 1), 3, none⟩) (by first | omega | (simp; omega) | simp) (.int .i64 (-dy)))).drew⟩
  · intro h1 h2 h3 h4 he hk
    have hkE := hide (inner_at (xs := xs) hsz.out hON.out)
    have hE := hide (edge_false he)
    obtain ⟨⟨x1, x2⟩, ⟨y1, y2⟩, k, kd, hnum, hkl, hkx, hkk⟩ := hkE.out he hl
    rw [hkk] at hk
    have HNUM := hide hnum
    clear hnum hkk
    clear hkE he ha
    obtain ⟨x, y, dx, dy⟩ := a
    simp only [Wk.nx, Wk.ny] at *
    generalize hX : x + dx = X at *
    generalize hY : y + dy = Y at *
    have HXY := hide (And.intro hX hY)
    clear hX hY
    have ex0 : (X == 0) = false := eqf (by omega)
    have dx0 := dec_of ex0
    have ex2 : (X == 2 * wd) = false := eqf (by omega)
    have dx2 := dec_of ex2
    have ey0 : (Y == 0) = false := eqf (by omega)
    have dy0 := dec_of ey0
    have ey2 : (Y == 2 * ht) = false := eqf (by omega)
    have dy2 := dec_of ey2
    have ek1 : (kd == 1) = true := eqt (by omega)
    have dk1 := dec_of ek1
    have ek2 : (kd == 2) = false := eqf (by omega)
    have dk2 := dec_of ek2
    clear h1 h2 h3 h4 hk
    obtain ⟨s1, s2, s3, s4⟩ := hsz.out
    have b1 : (-dx != dx) = true := by rcases g5 with rfl | rfl <;> rfl
    have b2 : (-dy != dy) = true := by rcases g6 with rfl | rfl <;> rfl
    have b3 : (dx != dx) = false := by simp
    have b4 : (dy != dy) = false := by simp
    obtain ⟨wka_x1, wkb_x1, wkc_x1, wkd_x1⟩ := ((Bx.new_ (w.alloc (.cells #[.int .i64 wd, .int .i64 ht, .slice A xs.length c] 36)) (w.heap.size + 1) 112 #[.int .i64 x, .int .i64 y, .int .i64 dx, .int .i64 dy] (by simp)).alloc (.cells #[.int .i64 0, .int .i64 0, .int .i64 0, .int .i64 0] 112)).four
    obtain ⟨pa_x1, pb_x1, pc_x1⟩ := (((Bx.new_ w (w.heap.size) 36 #[.int .i64 wd, .int .i64 ht, .slice A xs.length c] (by simp)).alloc (.cells #[.int .i64 x, .int .i64 y, .int .i64 dx, .int .i64 dy] 112)).alloc (.cells #[.int .i64 0, .int .i64 0, .int .i64 0, .int .i64 0] 112)).three
    go_enter Try.func114, Try.ntmps114
    go_wp2_with fail
    refine ((HX.out _)).mono ?_
    rintro e w1 ⟨rfl, hb1⟩
    have p_1 := (((Bx.new_ w (w.heap.size) 36 #[.int .i64 wd, .int .i64 ht, .slice A xs.length c] (by simp)).alloc (.cells #[.int .i64 x, .int .i64 y, .int .i64 dx, .int .i64 dy] 112)).alloc (.cells #[.int .i64 0, .int .i64 0, .int .i64 0, .int .i64 0] 112)).below hb1
    obtain ⟨pa_1, pb_1, pc_1⟩ := (p_1).three
    have wk_1 := ((Bx.new_ (w.alloc (.cells #[.int .i64 wd, .int .i64 ht, .slice A xs.length c] 36)) (w.heap.size + 1) 112 #[.int .i64 x, .int .i64 y, .int .i64 dx, .int .i64 dy] (by simp)).alloc (.cells #[.int .i64 0, .int .i64 0, .int .i64 0, .int .i64 0] 112)).below hb1
    obtain ⟨wka_1, wkb_1, wkc_1, wkd_1⟩ := (wk_1).four
    have r_1 := (Bx.new_ ((w.alloc (.cells #[.int .i64 wd, .int .i64 ht, .slice A xs.length c] 36)).alloc (.cells #[.int .i64 x, .int .i64 y, .int .i64 dx, .int .i64 dy] 112)) (w.heap.size + 1 + 1) 112 #[.int .i64 0, .int .i64 0, .int .i64 0, .int .i64 0] (by simp)).below hb1
    obtain ⟨ra_1, rb_1, rc_1, rd_1⟩ := (r_1).four
    have rf0_1 := (r_1).frozen 0
    have rf1_1 := (r_1).frozen 1
    have rf2_1 := (r_1).frozen 2
    have rf3_1 := (r_1).frozen 3
    have z_1 : (((w.alloc (.cells #[.int .i64 wd, .int .i64 ht, .slice A xs.length c] 36)).alloc (.cells #[.int .i64 x, .int .i64 y, .int .i64 dx, .int .i64 dy] 112)).alloc (.cells #[.int .i64 0, .int .i64 0, .int .i64 0, .int .i64 0] 112)).heap.size ≤ w1.heap.size := hb1.size
    simp only [World.size_alloc] at z_1
    have B_1 := ((((Below.refl w.heap.size w).alloc (by first | omega | (simp; omega) | simp) (.cells #[.int .i64 wd, .int .i64 ht, .slice A xs.length c] 36)).alloc (by first | omega | (simp; omega) | simp) (.cells #[.int .i64 x, .int .i64 y, .int .i64 dx, .int .i64 dy] 112)).alloc (by first | omega | (simp; omega) | simp) (.cells #[.int .i64 0, .int .i64 0, .int .i64 0, .int .i64 0] 112)).trans (hb1.mono (by first | omega | (simp; omega) | simp))
    obtain ⟨wka_b, wkb_b, wkc_b, wkd_b⟩ := ((wk_1).alloc (.cells #[.int .i64 X, .int .i64 Y] 110)).four
    obtain ⟨qa_b, qb_b⟩ := (Bx.new_ w1 (w1.heap.size) 110 #[.int .i64 X, .int .i64 Y] (by simp)).two
    obtain ⟨pa_b, pb_b, pc_b⟩ := ((p_1).alloc (.cells #[.int .i64 X, .int .i64 Y] 110)).three
    obtain ⟨qa_x3, qb_x3⟩ := ((Bx.new_ w1 (w1.heap.size) 110 #[.int .i64 X, .int .i64 Y] (by simp)).alloc (.cells #[.int .i64 X, .int .i64 Y, .int .i64 dx, .int .i64 dy] 112)).two
    obtain ⟨oa_x3, ob_x3, oc_x3, od_x3⟩ := (Bx.new_ (w1.alloc (.cells #[.int .i64 X, .int .i64 Y] 110)) (w1.heap.size + 1) 112 #[.int .i64 X, .int .i64 Y, .int .i64 dx, .int .i64 dy] (by simp)).four
    have of0_x3 := (Bx.new_ (w1.alloc (.cells #[.int .i64 X, .int .i64 Y] 110)) (w1.heap.size + 1) 112 #[.int .i64 X, .int .i64 Y, .int .i64 dx, .int .i64 dy] (by simp)).frozen 0
    have of1_x3 := (Bx.new_ (w1.alloc (.cells #[.int .i64 X, .int .i64 Y] 110)) (w1.heap.size + 1) 112 #[.int .i64 X, .int .i64 Y, .int .i64 dx, .int .i64 dy] (by simp)).frozen 1
    have of2_x3 := (Bx.new_ (w1.alloc (.cells #[.int .i64 X, .int .i64 Y] 110)) (w1.heap.size + 1) 112 #[.int .i64 X, .int .i64 Y, .int .i64 dx, .int .i64 dy] (by simp)).frozen 2
    have of3_x3 := (Bx.new_ (w1.alloc (.cells #[.int .i64 X, .int .i64 Y] 110)) (w1.heap.size + 1) 112 #[.int .i64 X, .int .i64 Y, .int .i64 dx, .int .i64 dy] (by simp)).frozen 3
    obtain ⟨wka_x3, wkb_x3, wkc_x3, wkd_x3⟩ := (((wk_1).alloc (.cells #[.int .i64 X, .int .i64 Y] 110)).alloc (.cells #[.int .i64 X, .int .i64 Y, .int .i64 dx, .int .i64 dy] 112)).four
    obtain ⟨pa_x3, pb_x3, pc_x3⟩ := (((p_1).alloc (.cells #[.int .i64 X, .int .i64 Y] 110)).alloc (.cells #[.int .i64 X, .int .i64 Y, .int .i64 dx, .int .i64 dy] 112)).three
    go_wp2_with fail
    refine ((isBorder_any wd ht X Y A c xs _ hsz.out)).mono ?_
    rintro e w3 ⟨rfl, hb3⟩
    have p_3 := (((p_1).alloc (.cells #[.int .i64 X, .int .i64 Y] 110)).alloc (.cells #[.int .i64 X, .int .i64 Y, .int .i64 dx, .int .i64 dy] 112)).below hb3
    obtain ⟨pa_3, pb_3, pc_3⟩ := (p_3).three
    have wk_3 := (((wk_1).alloc (.cells #[.int .i64 X, .int .i64 Y] 110)).alloc (.cells #[.int .i64 X, .int .i64 Y, .int .i64 dx, .int .i64 dy] 112)).below hb3
    obtain ⟨wka_3, wkb_3, wkc_3, wkd_3⟩ := (wk_3).four
    have r_3 := (((r_1).alloc (.cells #[.int .i64 X, .int .i64 Y] 110)).alloc (.cells #[.int .i64 X, .int .i64 Y, .int .i64 dx, .int .i64 dy] 112)).below hb3
    obtain ⟨ra_3, rb_3, rc_3, rd_3⟩ := (r_3).four
    have rf0_3 := (r_3).frozen 0
    have rf1_3 := (r_3).frozen 1
    have rf2_3 := (r_3).frozen 2
    have rf3_3 := (r_3).frozen 3
    have q_3 := ((Bx.new_ w1 (w1.heap.size) 110 #[.int .i64 X, .int .i64 Y] (by simp)).alloc (.cells #[.int .i64 X, .int .i64 Y, .int .i64 dx, .int .i64 dy] 112)).below hb3
    obtain ⟨qa_3, qb_3⟩ := (q_3).two
    have o_3 := (Bx.new_ (w1.alloc (.cells #[.int .i64 X, .int .i64 Y] 110)) (w1.heap.size + 1) 112 #[.int .i64 X, .int .i64 Y, .int .i64 dx, .int .i64 dy] (by simp)).below hb3
    obtain ⟨oa_3, ob_3, oc_3, od_3⟩ := (o_3).four
    have of0_3 := (o_3).frozen 0
    have of1_3 := (o_3).frozen 1
    have of2_3 := (o_3).frozen 2
    have of3_3 := (o_3).frozen 3
    have z_3 : ((w1.alloc (.cells #[.int .i64 X, .int .i64 Y] 110)).alloc (.cells #[.int .i64 X, .int .i64 Y, .int .i64 dx, .int .i64 dy] 112)).heap.size ≤ w3.heap.size := hb3.size
    simp only [World.size_alloc] at z_3
    have B_3 := (((B_1).alloc (by first | omega | (simp; omega) | simp) (.cells #[.int .i64 X, .int .i64 Y] 110)).alloc (by first | omega | (simp; omega) | simp) (.cells #[.int .i64 X, .int .i64 Y, .int .i64 dx, .int .i64 dy] 112)).trans (hb3.mono (by first | omega | (simp; omega) | simp))
    rw [hE.out]
    obtain ⟨ra_c, rb_c, rc_c, rd_c⟩ := (r_3).four
    have rf0_c := (r_3).frozen 0
    have rf1_c := (r_3).frozen 1
    have rf2_c := (r_3).frozen 2
    have rf3_c := (r_3).frozen 3
    obtain ⟨oa_c, ob_c, oc_c, od_c⟩ := (o_3).four
    have of0_c := (o_3).frozen 0
    have of1_c := (o_3).frozen 1
    have of2_c := (o_3).frozen 2
    have of3_c := (o_3).frozen 3
    obtain ⟨qa_c, qb_c⟩ := (q_3).two
    obtain ⟨pa_c, pb_c, pc_c⟩ := (p_3).three
    obtain ⟨wka_c, wkb_c, wkc_c, wkd_c⟩ := (wk_3).four
    have hC0 : Below w3.heap.size w3 w3.drew := (Below.refl _ _).drew
    have hpl := (p_3)
    have hql := (q_3)
    have f0 : ∀ v : BelowOf w3, v.w.cell? ⟨w.heap.size, 2, none⟩ = some (.slice A xs.length c) := fun v => (hpl.below v.h).three.2.2
    have f3 : ∀ v : BelowOf w3, v.w.cell? ⟨w.heap.size, 0, none⟩ = some (.int .i64 wd) := fun v => (hpl.below v.h).three.1
    have f4 : ∀ v : BelowOf w3, v.w.cell? ⟨w.heap.size, 1, none⟩ = some (.int .i64 ht) := fun v => (hpl.below v.h).three.2.1
    have f1 : ∀ v : BelowOf w3, v.w.cell? ⟨w1.heap.size, 0, none⟩ = some (.int .i64 X) := fun v => (hql.below v.h).two.1
    have f2 : ∀ v : BelowOf w3, v.w.cell? ⟨w1.heap.size, 1, none⟩ = some (.int .i64 Y) := fun v => (hql.below v.h).two.2
    have hrd := hxs.below (B_3)
    obtain ⟨b, off, kd', rfl, hb, hkx', hc⟩ := hrd.at_ (k := k) hkl
    obtain rfl : kd' = kd := by rw [hkx] at hkx'; injection hkx' with h; exact h.symm
    have hcp : ∀ v : BelowOf w3, v.w.cell? ⟨b, off + k, none⟩ = some (.int .i64 kd') := fun v => by
      obtain ⟨b', off', kd2, e1, _, e2, e3⟩ := (hrd.below v.h).at_ (k := k) hkl
      injection e1 with e1
      injection e1 with e4 e5
      subst e4 e5
      rw [hkx'] at e2
      injection e2 with e2
      subst e2
      exact e3
    have HCN : ∀ v : BelowOf w3, Calls Try.prog 131 #[.agg #[.int .i64 wd, .int .i64 ht, .slice (some ⟨b, off, none⟩) xs.length c], .agg #[.int .i64 X, .int .i64 Y]] v.w (RetV v.w (.int .i64 (k : Int))) := fun v => by
      rw [← HNUM.out]
      exact number_any wd ht X Y _ c xs v.w hsz.out.1 hsz.out.2.1 y1 y2 x1 x2 hON.out.2.2.2.2
    go_wp2_with fail
    refine region_below (by kernel_rfl) (by kernel_rfl) hC0 ?_
    repeat (go_big_quiet_step (first | exact BelowOf.ret (HCN _)))
    refine wpQuiet_nil ?_
    rintro w4 ⟨⟨w4, hb4⟩, rfl⟩
    have p_4 := (p_3).below hb4
    obtain ⟨pa_4, pb_4, pc_4⟩ := (p_4).three
    have wk_4 := (wk_3).below hb4
    obtain ⟨wka_4, wkb_4, wkc_4, wkd_4⟩ := (wk_4).four
    have r_4 := (r_3).below hb4
    obtain ⟨ra_4, rb_4, rc_4, rd_4⟩ := (r_4).four
    have rf0_4 := (r_4).frozen 0
    have rf1_4 := (r_4).frozen 1
    have rf2_4 := (r_4).frozen 2
    have rf3_4 := (r_4).frozen 3
    have q_4 := (q_3).below hb4
    obtain ⟨qa_4, qb_4⟩ := (q_4).two
    have o_4 := (o_3).below hb4
    obtain ⟨oa_4, ob_4, oc_4, od_4⟩ := (o_4).four
    have of0_4 := (o_4).frozen 0
    have of1_4 := (o_4).frozen 1
    have of2_4 := (o_4).frozen 2
    have of3_4 := (o_4).frozen 3
    have z_4 : w3.heap.size ≤ w4.heap.size := hb4.size
    have B_4 := (B_3).trans (hb4.mono (by first | omega | (simp; omega) | simp))
    clear f0 f1 f2 f3 f4 hcp HCN
    obtain ⟨oa_d, ob_d, oc_d, od_d⟩ := (o_4).four
    have of0_d := (o_4).frozen 0
    have of1_d := (o_4).frozen 1
    have of2_d := (o_4).frozen 2
    have of3_d := (o_4).frozen 3
    obtain ⟨qa_d, qb_d⟩ := (q_4).two
    obtain ⟨pa_d, pb_d, pc_d⟩ := (p_4).three
    obtain ⟨wka_d, wkb_d, wkc_d, wkd_d⟩ := (wk_4).four
    obtain ⟨ra_d, rb_d, rc_d, rd_d⟩ := (r_4).four
    have rf0_d := (r_4).frozen 0
    have rf1_d := (r_4).frozen 1
    have rf2_d := (r_4).frozen 2
    have rf3_d := (r_4).frozen 3
    obtain ⟨oa_x6, ob_x6, oc_x6, od_x6⟩ := ((o_4).set_ 2 (.int .i64 (-dx))).four
    have of0_x6 := ((o_4).set_ 2 (.int .i64 (-dx))).frozen 0
    have of1_x6 := ((o_4).set_ 2 (.int .i64 (-dx))).frozen 1
    have of2_x6 := ((o_4).set_ 2 (.int .i64 (-dx))).frozen 2
    have of3_x6 := ((o_4).set_ 2 (.int .i64 (-dx))).frozen 3
    obtain ⟨qa_x6, qb_x6⟩ := ((q_4).far (p := ⟨(w1.heap.size + 1), 2, none⟩) (by first | omega | (simp; omega) | simp) (.int .i64 (-dx))).two
    obtain ⟨pa_x6, pb_x6, pc_x6⟩ := ((p_4).far (p := ⟨(w1.heap.size + 1), 2, none⟩) (by first | omega | (simp; omega) | simp) (.int .i64 (-dx))).three
    obtain ⟨wka_x6, wkb_x6, wkc_x6, wkd_x6⟩ := ((wk_4).far (p := ⟨(w1.heap.size + 1), 2, none⟩) (by first | omega | (simp; omega) | simp) (.int .i64 (-dx))).four
    obtain ⟨ra_x6, rb_x6, rc_x6, rd_x6⟩ := ((r_4).far (p := ⟨(w1.heap.size + 1), 2, none⟩) (by first | omega | (simp; omega) | simp) (.int .i64 (-dx))).four
    have rf0_x6 := ((r_4).far (p := ⟨(w1.heap.size + 1), 2, none⟩) (by first | omega | (simp; omega) | simp) (.int .i64 (-dx))).frozen 0
    have rf1_x6 := ((r_4).far (p := ⟨(w1.heap.size + 1), 2, none⟩) (by first | omega | (simp; omega) | simp) (.int .i64 (-dx))).frozen 1
    have rf2_x6 := ((r_4).far (p := ⟨(w1.heap.size + 1), 2, none⟩) (by first | omega | (simp; omega) | simp) (.int .i64 (-dx))).frozen 2
    have rf3_x6 := ((r_4).far (p := ⟨(w1.heap.size + 1), 2, none⟩) (by first | omega | (simp; omega) | simp) (.int .i64 (-dx))).frozen 3
    obtain ⟨ra_x7, rb_x7, rc_x7, rd_x7⟩ := (((r_4).far (p := ⟨(w1.heap.size + 1), 2, none⟩) (by first | omega | (simp; omega) | simp) (.int .i64 (-dx))).set_ 0 (.int .i64 (X))).four
    have rf0_x7 := (((r_4).far (p := ⟨(w1.heap.size + 1), 2, none⟩) (by first | omega | (simp; omega) | simp) (.int .i64 (-dx))).set_ 0 (.int .i64 (X))).frozen 0
    have rf1_x7 := (((r_4).far (p := ⟨(w1.heap.size + 1), 2, none⟩) (by first | omega | (simp; omega) | simp) (.int .i64 (-dx))).set_ 0 (.int .i64 (X))).frozen 1
    have rf2_x7 := (((r_4).far (p := ⟨(w1.heap.size + 1), 2, none⟩) (by first | omega | (simp; omega) | simp) (.int .i64 (-dx))).set_ 0 (.int .i64 (X))).frozen 2
    have rf3_x7 := (((r_4).far (p := ⟨(w1.heap.size + 1), 2, none⟩) (by first | omega | (simp; omega) | simp) (.int .i64 (-dx))).set_ 0 (.int .i64 (X))).frozen 3
    obtain ⟨ra_x8, rb_x8, rc_x8, rd_x8⟩ := ((((r_4).far (p := ⟨(w1.heap.size + 1), 2, none⟩) (by first | omega | (simp; omega) | simp) (.int .i64 (-dx))).set_ 0 (.int .i64 (X))).set_ 1 (.int .i64 (Y))).four
    have rf0_x8 := ((((r_4).far (p := ⟨(w1.heap.size + 1), 2, none⟩) (by first | omega | (simp; omega) | simp) (.int .i64 (-dx))).set_ 0 (.int .i64 (X))).set_ 1 (.int .i64 (Y))).frozen 0
    have rf1_x8 := ((((r_4).far (p := ⟨(w1.heap.size + 1), 2, none⟩) (by first | omega | (simp; omega) | simp) (.int .i64 (-dx))).set_ 0 (.int .i64 (X))).set_ 1 (.int .i64 (Y))).frozen 1
    have rf2_x8 := ((((r_4).far (p := ⟨(w1.heap.size + 1), 2, none⟩) (by first | omega | (simp; omega) | simp) (.int .i64 (-dx))).set_ 0 (.int .i64 (X))).set_ 1 (.int .i64 (Y))).frozen 2
    have rf3_x8 := ((((r_4).far (p := ⟨(w1.heap.size + 1), 2, none⟩) (by first | omega | (simp; omega) | simp) (.int .i64 (-dx))).set_ 0 (.int .i64 (X))).set_ 1 (.int .i64 (Y))).frozen 3
    obtain ⟨ra_x9, rb_x9, rc_x9, rd_x9⟩ := (((((r_4).far (p := ⟨(w1.heap.size + 1), 2, none⟩) (by first | omega | (simp; omega) | simp) (.int .i64 (-dx))).set_ 0 (.int .i64 (X))).set_ 1 (.int .i64 (Y))).set_ 2 (.int .i64 (-dx))).four
    have rf0_x9 := (((((r_4).far (p := ⟨(w1.heap.size + 1), 2, none⟩) (by first | omega | (simp; omega) | simp) (.int .i64 (-dx))).set_ 0 (.int .i64 (X))).set_ 1 (.int .i64 (Y))).set_ 2 (.int .i64 (-dx))).frozen 0
    have rf1_x9 := (((((r_4).far (p := ⟨(w1.heap.size + 1), 2, none⟩) (by first | omega | (simp; omega) | simp) (.int .i64 (-dx))).set_ 0 (.int .i64 (X))).set_ 1 (.int .i64 (Y))).set_ 2 (.int .i64 (-dx))).frozen 1
    have rf2_x9 := (((((r_4).far (p := ⟨(w1.heap.size + 1), 2, none⟩) (by first | omega | (simp; omega) | simp) (.int .i64 (-dx))).set_ 0 (.int .i64 (X))).set_ 1 (.int .i64 (Y))).set_ 2 (.int .i64 (-dx))).frozen 2
    have rf3_x9 := (((((r_4).far (p := ⟨(w1.heap.size + 1), 2, none⟩) (by first | omega | (simp; omega) | simp) (.int .i64 (-dx))).set_ 0 (.int .i64 (X))).set_ 1 (.int .i64 (Y))).set_ 2 (.int .i64 (-dx))).frozen 3
    obtain ⟨ra_x10, rb_x10, rc_x10, rd_x10⟩ := ((((((r_4).far (p := ⟨(w1.heap.size + 1), 2, none⟩) (by first | omega | (simp; omega) | simp) (.int .i64 (-dx))).set_ 0 (.int .i64 (X))).set_ 1 (.int .i64 (Y))).set_ 2 (.int .i64 (-dx))).set_ 3 (.int .i64 (dy))).four
    have rf0_x10 := ((((((r_4).far (p := ⟨(w1.heap.size + 1), 2, none⟩) (by first | omega | (simp; omega) | simp) (.int .i64 (-dx))).set_ 0 (.int .i64 (X))).set_ 1 (.int .i64 (Y))).set_ 2 (.int .i64 (-dx))).set_ 3 (.int .i64 (dy))).frozen 0
    have rf1_x10 := ((((((r_4).far (p := ⟨(w1.heap.size + 1), 2, none⟩) (by first | omega | (simp; omega) | simp) (.int .i64 (-dx))).set_ 0 (.int .i64 (X))).set_ 1 (.int .i64 (Y))).set_ 2 (.int .i64 (-dx))).set_ 3 (.int .i64 (dy))).frozen 1
    have rf2_x10 := ((((((r_4).far (p := ⟨(w1.heap.size + 1), 2, none⟩) (by first | omega | (simp; omega) | simp) (.int .i64 (-dx))).set_ 0 (.int .i64 (X))).set_ 1 (.int .i64 (Y))).set_ 2 (.int .i64 (-dx))).set_ 3 (.int .i64 (dy))).frozen 2
    have rf3_x10 := ((((((r_4).far (p := ⟨(w1.heap.size + 1), 2, none⟩) (by first | omega | (simp; omega) | simp) (.int .i64 (-dx))).set_ 0 (.int .i64 (X))).set_ 1 (.int .i64 (Y))).set_ 2 (.int .i64 (-dx))).set_ 3 (.int .i64 (dy))).frozen 3
    go_wp2_with fail
    go_region
    go_wp2_with fail
    obtain ⟨ra_z, rb_z, rc_z, rd_z⟩ := ((((((r_4).far (p := ⟨(w1.heap.size + 1), 2, none⟩) (by first | omega | (simp; omega) | simp) (.int .i64 (-dx))).set_ 0 (.int .i64 (X))).set_ 1 (.int .i64 (Y))).set_ 2 (.int .i64 (-dx))).set_ 3 (.int .i64 (dy))).four
    have rf0_z := ((((((r_4).far (p := ⟨(w1.heap.size + 1), 2, none⟩) (by first | omega | (simp; omega) | simp) (.int .i64 (-dx))).set_ 0 (.int .i64 (X))).set_ 1 (.int .i64 (Y))).set_ 2 (.int .i64 (-dx))).set_ 3 (.int .i64 (dy))).frozen 0
    have rf1_z := ((((((r_4).far (p := ⟨(w1.heap.size + 1), 2, none⟩) (by first | omega | (simp; omega) | simp) (.int .i64 (-dx))).set_ 0 (.int .i64 (X))).set_ 1 (.int .i64 (Y))).set_ 2 (.int .i64 (-dx))).set_ 3 (.int .i64 (dy))).frozen 1
    have rf2_z := ((((((r_4).far (p := ⟨(w1.heap.size + 1), 2, none⟩) (by first | omega | (simp; omega) | simp) (.int .i64 (-dx))).set_ 0 (.int .i64 (X))).set_ 1 (.int .i64 (Y))).set_ 2 (.int .i64 (-dx))).set_ 3 (.int .i64 (dy))).frozen 2
    have rf3_z := ((((((r_4).far (p := ⟨(w1.heap.size + 1), 2, none⟩) (by first | omega | (simp; omega) | simp) (.int .i64 (-dx))).set_ 0 (.int .i64 (X))).set_ 1 (.int .i64 (Y))).set_ 2 (.int .i64 (-dx))).set_ 3 (.int .i64 (dy))).frozen 3
    refine bodyPost_ret (v := .tuple #[.agg #[.int .i64 X, .int .i64 Y, .int .i64 (-dx), .int .i64 (dy)], .bool true]) (by simp [results, Try.results114, go_sem, ra_z, rb_z, rc_z, rd_z]) rfl ?_
    exact ⟨_, rfl, (((((((B_4).setCell (p := ⟨(w1.heap.size + 1), 2, none⟩) (by first | omega | (simp; omega) | simp) (.int .i64 (-dx))).setCell (p := ⟨(w.heap.size + 1 + 1), 0, none⟩) (by first | omega | (simp; omega) | simp) (.int .i64 (X))).setCell (p := ⟨(w.heap.size + 1 + 1), 1, none⟩) (by first | omega | (simp; omega) | simp) (.int .i64 (Y))).setCell (p := ⟨(w.heap.size + 1 + 1), 2, none⟩) (by first | omega | (simp; omega) | simp) (.int .i64 (-dx))).setCell (p := ⟨(w.heap.size + 1 + 1), 3, none⟩) (by first | omega | (simp; omega) | simp) (.int .i64 (dy)))).drew⟩
  · intro h1 h2 h3 h4 he hk
    have hkE := hide (inner_at (xs := xs) hsz.out hON.out)
    have hE := hide (edge_false he)
    obtain ⟨⟨x1, x2⟩, ⟨y1, y2⟩, k, kd, hnum, hkl, hkx, hkk⟩ := hkE.out he hl
    rw [hkk] at hk
    have HNUM := hide hnum
    clear hnum hkk
    clear hkE he ha
    obtain ⟨x, y, dx, dy⟩ := a
    simp only [Wk.nx, Wk.ny] at *
    generalize hX : x + dx = X at *
    generalize hY : y + dy = Y at *
    have HXY := hide (And.intro hX hY)
    clear hX hY
    have ex0 : (X == 0) = false := eqf (by omega)
    have dx0 := dec_of ex0
    have ex2 : (X == 2 * wd) = false := eqf (by omega)
    have dx2 := dec_of ex2
    have ey0 : (Y == 0) = false := eqf (by omega)
    have dy0 := dec_of ey0
    have ey2 : (Y == 2 * ht) = false := eqf (by omega)
    have dy2 := dec_of ey2
    have ek1 : (kd == 1) = false := eqf (by omega)
    have dk1 := dec_of ek1
    have ek2 : (kd == 2) = true := eqt (by omega)
    have dk2 := dec_of ek2
    clear h1 h2 h3 h4 hk
    obtain ⟨s1, s2, s3, s4⟩ := hsz.out
    have b1 : (-dx != dx) = true := by rcases g5 with rfl | rfl <;> rfl
    have b2 : (-dy != dy) = true := by rcases g6 with rfl | rfl <;> rfl
    have b3 : (dx != dx) = false := by simp
    have b4 : (dy != dy) = false := by simp
    obtain ⟨wka_x1, wkb_x1, wkc_x1, wkd_x1⟩ := ((Bx.new_ (w.alloc (.cells #[.int .i64 wd, .int .i64 ht, .slice A xs.length c] 36)) (w.heap.size + 1) 112 #[.int .i64 x, .int .i64 y, .int .i64 dx, .int .i64 dy] (by simp)).alloc (.cells #[.int .i64 0, .int .i64 0, .int .i64 0, .int .i64 0] 112)).four
    obtain ⟨pa_x1, pb_x1, pc_x1⟩ := (((Bx.new_ w (w.heap.size) 36 #[.int .i64 wd, .int .i64 ht, .slice A xs.length c] (by simp)).alloc (.cells #[.int .i64 x, .int .i64 y, .int .i64 dx, .int .i64 dy] 112)).alloc (.cells #[.int .i64 0, .int .i64 0, .int .i64 0, .int .i64 0] 112)).three
    go_enter Try.func114, Try.ntmps114
    go_wp2_with fail
    refine ((HX.out _)).mono ?_
    rintro e w1 ⟨rfl, hb1⟩
    have p_1 := (((Bx.new_ w (w.heap.size) 36 #[.int .i64 wd, .int .i64 ht, .slice A xs.length c] (by simp)).alloc (.cells #[.int .i64 x, .int .i64 y, .int .i64 dx, .int .i64 dy] 112)).alloc (.cells #[.int .i64 0, .int .i64 0, .int .i64 0, .int .i64 0] 112)).below hb1
    obtain ⟨pa_1, pb_1, pc_1⟩ := (p_1).three
    have wk_1 := ((Bx.new_ (w.alloc (.cells #[.int .i64 wd, .int .i64 ht, .slice A xs.length c] 36)) (w.heap.size + 1) 112 #[.int .i64 x, .int .i64 y, .int .i64 dx, .int .i64 dy] (by simp)).alloc (.cells #[.int .i64 0, .int .i64 0, .int .i64 0, .int .i64 0] 112)).below hb1
    obtain ⟨wka_1, wkb_1, wkc_1, wkd_1⟩ := (wk_1).four
    have r_1 := (Bx.new_ ((w.alloc (.cells #[.int .i64 wd, .int .i64 ht, .slice A xs.length c] 36)).alloc (.cells #[.int .i64 x, .int .i64 y, .int .i64 dx, .int .i64 dy] 112)) (w.heap.size + 1 + 1) 112 #[.int .i64 0, .int .i64 0, .int .i64 0, .int .i64 0] (by simp)).below hb1
    obtain ⟨ra_1, rb_1, rc_1, rd_1⟩ := (r_1).four
    have rf0_1 := (r_1).frozen 0
    have rf1_1 := (r_1).frozen 1
    have rf2_1 := (r_1).frozen 2
    have rf3_1 := (r_1).frozen 3
    have z_1 : (((w.alloc (.cells #[.int .i64 wd, .int .i64 ht, .slice A xs.length c] 36)).alloc (.cells #[.int .i64 x, .int .i64 y, .int .i64 dx, .int .i64 dy] 112)).alloc (.cells #[.int .i64 0, .int .i64 0, .int .i64 0, .int .i64 0] 112)).heap.size ≤ w1.heap.size := hb1.size
    simp only [World.size_alloc] at z_1
    have B_1 := ((((Below.refl w.heap.size w).alloc (by first | omega | (simp; omega) | simp) (.cells #[.int .i64 wd, .int .i64 ht, .slice A xs.length c] 36)).alloc (by first | omega | (simp; omega) | simp) (.cells #[.int .i64 x, .int .i64 y, .int .i64 dx, .int .i64 dy] 112)).alloc (by first | omega | (simp; omega) | simp) (.cells #[.int .i64 0, .int .i64 0, .int .i64 0, .int .i64 0] 112)).trans (hb1.mono (by first | omega | (simp; omega) | simp))
    obtain ⟨wka_b, wkb_b, wkc_b, wkd_b⟩ := ((wk_1).alloc (.cells #[.int .i64 X, .int .i64 Y] 110)).four
    obtain ⟨qa_b, qb_b⟩ := (Bx.new_ w1 (w1.heap.size) 110 #[.int .i64 X, .int .i64 Y] (by simp)).two
    obtain ⟨pa_b, pb_b, pc_b⟩ := ((p_1).alloc (.cells #[.int .i64 X, .int .i64 Y] 110)).three
    obtain ⟨qa_x3, qb_x3⟩ := ((Bx.new_ w1 (w1.heap.size) 110 #[.int .i64 X, .int .i64 Y] (by simp)).alloc (.cells #[.int .i64 X, .int .i64 Y, .int .i64 dx, .int .i64 dy] 112)).two
    obtain ⟨oa_x3, ob_x3, oc_x3, od_x3⟩ := (Bx.new_ (w1.alloc (.cells #[.int .i64 X, .int .i64 Y] 110)) (w1.heap.size + 1) 112 #[.int .i64 X, .int .i64 Y, .int .i64 dx, .int .i64 dy] (by simp)).four
    have of0_x3 := (Bx.new_ (w1.alloc (.cells #[.int .i64 X, .int .i64 Y] 110)) (w1.heap.size + 1) 112 #[.int .i64 X, .int .i64 Y, .int .i64 dx, .int .i64 dy] (by simp)).frozen 0
    have of1_x3 := (Bx.new_ (w1.alloc (.cells #[.int .i64 X, .int .i64 Y] 110)) (w1.heap.size + 1) 112 #[.int .i64 X, .int .i64 Y, .int .i64 dx, .int .i64 dy] (by simp)).frozen 1
    have of2_x3 := (Bx.new_ (w1.alloc (.cells #[.int .i64 X, .int .i64 Y] 110)) (w1.heap.size + 1) 112 #[.int .i64 X, .int .i64 Y, .int .i64 dx, .int .i64 dy] (by simp)).frozen 2
    have of3_x3 := (Bx.new_ (w1.alloc (.cells #[.int .i64 X, .int .i64 Y] 110)) (w1.heap.size + 1) 112 #[.int .i64 X, .int .i64 Y, .int .i64 dx, .int .i64 dy] (by simp)).frozen 3
    obtain ⟨wka_x3, wkb_x3, wkc_x3, wkd_x3⟩ := (((wk_1).alloc (.cells #[.int .i64 X, .int .i64 Y] 110)).alloc (.cells #[.int .i64 X, .int .i64 Y, .int .i64 dx, .int .i64 dy] 112)).four
    obtain ⟨pa_x3, pb_x3, pc_x3⟩ := (((p_1).alloc (.cells #[.int .i64 X, .int .i64 Y] 110)).alloc (.cells #[.int .i64 X, .int .i64 Y, .int .i64 dx, .int .i64 dy] 112)).three
    go_wp2_with fail
    refine ((isBorder_any wd ht X Y A c xs _ hsz.out)).mono ?_
    rintro e w3 ⟨rfl, hb3⟩
    have p_3 := (((p_1).alloc (.cells #[.int .i64 X, .int .i64 Y] 110)).alloc (.cells #[.int .i64 X, .int .i64 Y, .int .i64 dx, .int .i64 dy] 112)).below hb3
    obtain ⟨pa_3, pb_3, pc_3⟩ := (p_3).three
    have wk_3 := (((wk_1).alloc (.cells #[.int .i64 X, .int .i64 Y] 110)).alloc (.cells #[.int .i64 X, .int .i64 Y, .int .i64 dx, .int .i64 dy] 112)).below hb3
    obtain ⟨wka_3, wkb_3, wkc_3, wkd_3⟩ := (wk_3).four
    have r_3 := (((r_1).alloc (.cells #[.int .i64 X, .int .i64 Y] 110)).alloc (.cells #[.int .i64 X, .int .i64 Y, .int .i64 dx, .int .i64 dy] 112)).below hb3
    obtain ⟨ra_3, rb_3, rc_3, rd_3⟩ := (r_3).four
    have rf0_3 := (r_3).frozen 0
    have rf1_3 := (r_3).frozen 1
    have rf2_3 := (r_3).frozen 2
    have rf3_3 := (r_3).frozen 3
    have q_3 := ((Bx.new_ w1 (w1.heap.size) 110 #[.int .i64 X, .int .i64 Y] (by simp)).alloc (.cells #[.int .i64 X, .int .i64 Y, .int .i64 dx, .int .i64 dy] 112)).below hb3
    obtain ⟨qa_3, qb_3⟩ := (q_3).two
    have o_3 := (Bx.new_ (w1.alloc (.cells #[.int .i64 X, .int .i64 Y] 110)) (w1.heap.size + 1) 112 #[.int .i64 X, .int .i64 Y, .int .i64 dx, .int .i64 dy] (by simp)).below hb3
    obtain ⟨oa_3, ob_3, oc_3, od_3⟩ := (o_3).four
    have of0_3 := (o_3).frozen 0
    have of1_3 := (o_3).frozen 1
    have of2_3 := (o_3).frozen 2
    have of3_3 := (o_3).frozen 3
    have z_3 : ((w1.alloc (.cells #[.int .i64 X, .int .i64 Y] 110)).alloc (.cells #[.int .i64 X, .int .i64 Y, .int .i64 dx, .int .i64 dy] 112)).heap.size ≤ w3.heap.size := hb3.size
    simp only [World.size_alloc] at z_3
    have B_3 := (((B_1).alloc (by first | omega | (simp; omega) | simp) (.cells #[.int .i64 X, .int .i64 Y] 110)).alloc (by first | omega | (simp; omega) | simp) (.cells #[.int .i64 X, .int .i64 Y, .int .i64 dx, .int .i64 dy] 112)).trans (hb3.mono (by first | omega | (simp; omega) | simp))
    rw [hE.out]
    obtain ⟨ra_c, rb_c, rc_c, rd_c⟩ := (r_3).four
    have rf0_c := (r_3).frozen 0
    have rf1_c := (r_3).frozen 1
    have rf2_c := (r_3).frozen 2
    have rf3_c := (r_3).frozen 3
    obtain ⟨oa_c, ob_c, oc_c, od_c⟩ := (o_3).four
    have of0_c := (o_3).frozen 0
    have of1_c := (o_3).frozen 1
    have of2_c := (o_3).frozen 2
    have of3_c := (o_3).frozen 3
    obtain ⟨qa_c, qb_c⟩ := (q_3).two
    obtain ⟨pa_c, pb_c, pc_c⟩ := (p_3).three
    obtain ⟨wka_c, wkb_c, wkc_c, wkd_c⟩ := (wk_3).four
    have hC0 : Below w3.heap.size w3 w3.drew := (Below.refl _ _).drew
    have hpl := (p_3)
    have hql := (q_3)
    have f0 : ∀ v : BelowOf w3, v.w.cell? ⟨w.heap.size, 2, none⟩ = some (.slice A xs.length c) := fun v => (hpl.below v.h).three.2.2
    have f3 : ∀ v : BelowOf w3, v.w.cell? ⟨w.heap.size, 0, none⟩ = some (.int .i64 wd) := fun v => (hpl.below v.h).three.1
    have f4 : ∀ v : BelowOf w3, v.w.cell? ⟨w.heap.size, 1, none⟩ = some (.int .i64 ht) := fun v => (hpl.below v.h).three.2.1
    have f1 : ∀ v : BelowOf w3, v.w.cell? ⟨w1.heap.size, 0, none⟩ = some (.int .i64 X) := fun v => (hql.below v.h).two.1
    have f2 : ∀ v : BelowOf w3, v.w.cell? ⟨w1.heap.size, 1, none⟩ = some (.int .i64 Y) := fun v => (hql.below v.h).two.2
    have hrd := hxs.below (B_3)
    obtain ⟨b, off, kd', rfl, hb, hkx', hc⟩ := hrd.at_ (k := k) hkl
    obtain rfl : kd' = kd := by rw [hkx] at hkx'; injection hkx' with h; exact h.symm
    have hcp : ∀ v : BelowOf w3, v.w.cell? ⟨b, off + k, none⟩ = some (.int .i64 kd') := fun v => by
      obtain ⟨b', off', kd2, e1, _, e2, e3⟩ := (hrd.below v.h).at_ (k := k) hkl
      injection e1 with e1
      injection e1 with e4 e5
      subst e4 e5
      rw [hkx'] at e2
      injection e2 with e2
      subst e2
      exact e3
    have HCN : ∀ v : BelowOf w3, Calls Try.prog 131 #[.agg #[.int .i64 wd, .int .i64 ht, .slice (some ⟨b, off, none⟩) xs.length c], .agg #[.int .i64 X, .int .i64 Y]] v.w (RetV v.w (.int .i64 (k : Int))) := fun v => by
      rw [← HNUM.out]
      exact number_any wd ht X Y _ c xs v.w hsz.out.1 hsz.out.2.1 y1 y2 x1 x2 hON.out.2.2.2.2
    go_wp2_with fail
    refine region_below (by kernel_rfl) (by kernel_rfl) hC0 ?_
    repeat (go_big_quiet_step (first | exact BelowOf.ret (HCN _)))
    refine wpQuiet_nil ?_
    rintro w4 ⟨⟨w4, hb4⟩, rfl⟩
    have p_4 := (p_3).below hb4
    obtain ⟨pa_4, pb_4, pc_4⟩ := (p_4).three
    have wk_4 := (wk_3).below hb4
    obtain ⟨wka_4, wkb_4, wkc_4, wkd_4⟩ := (wk_4).four
    have r_4 := (r_3).below hb4
    obtain ⟨ra_4, rb_4, rc_4, rd_4⟩ := (r_4).four
    have rf0_4 := (r_4).frozen 0
    have rf1_4 := (r_4).frozen 1
    have rf2_4 := (r_4).frozen 2
    have rf3_4 := (r_4).frozen 3
    have q_4 := (q_3).below hb4
    obtain ⟨qa_4, qb_4⟩ := (q_4).two
    have o_4 := (o_3).below hb4
    obtain ⟨oa_4, ob_4, oc_4, od_4⟩ := (o_4).four
    have of0_4 := (o_4).frozen 0
    have of1_4 := (o_4).frozen 1
    have of2_4 := (o_4).frozen 2
    have of3_4 := (o_4).frozen 3
    have z_4 : w3.heap.size ≤ w4.heap.size := hb4.size
    have B_4 := (B_3).trans (hb4.mono (by first | omega | (simp; omega) | simp))
    clear f0 f1 f2 f3 f4 hcp HCN
    obtain ⟨oa_d, ob_d, oc_d, od_d⟩ := (o_4).four
    have of0_d := (o_4).frozen 0
    have of1_d := (o_4).frozen 1
    have of2_d := (o_4).frozen 2
    have of3_d := (o_4).frozen 3
    obtain ⟨qa_d, qb_d⟩ := (q_4).two
    obtain ⟨pa_d, pb_d, pc_d⟩ := (p_4).three
    obtain ⟨wka_d, wkb_d, wkc_d, wkd_d⟩ := (wk_4).four
    obtain ⟨ra_d, rb_d, rc_d, rd_d⟩ := (r_4).four
    have rf0_d := (r_4).frozen 0
    have rf1_d := (r_4).frozen 1
    have rf2_d := (r_4).frozen 2
    have rf3_d := (r_4).frozen 3
    obtain ⟨oa_x6, ob_x6, oc_x6, od_x6⟩ := ((o_4).set_ 3 (.int .i64 (-dy))).four
    have of0_x6 := ((o_4).set_ 3 (.int .i64 (-dy))).frozen 0
    have of1_x6 := ((o_4).set_ 3 (.int .i64 (-dy))).frozen 1
    have of2_x6 := ((o_4).set_ 3 (.int .i64 (-dy))).frozen 2
    have of3_x6 := ((o_4).set_ 3 (.int .i64 (-dy))).frozen 3
    obtain ⟨qa_x6, qb_x6⟩ := ((q_4).far (p := ⟨(w1.heap.size + 1), 3, none⟩) (by first | omega | (simp; omega) | simp) (.int .i64 (-dy))).two
    obtain ⟨pa_x6, pb_x6, pc_x6⟩ := ((p_4).far (p := ⟨(w1.heap.size + 1), 3, none⟩) (by first | omega | (simp; omega) | simp) (.int .i64 (-dy))).three
    obtain ⟨wka_x6, wkb_x6, wkc_x6, wkd_x6⟩ := ((wk_4).far (p := ⟨(w1.heap.size + 1), 3, none⟩) (by first | omega | (simp; omega) | simp) (.int .i64 (-dy))).four
    obtain ⟨ra_x6, rb_x6, rc_x6, rd_x6⟩ := ((r_4).far (p := ⟨(w1.heap.size + 1), 3, none⟩) (by first | omega | (simp; omega) | simp) (.int .i64 (-dy))).four
    have rf0_x6 := ((r_4).far (p := ⟨(w1.heap.size + 1), 3, none⟩) (by first | omega | (simp; omega) | simp) (.int .i64 (-dy))).frozen 0
    have rf1_x6 := ((r_4).far (p := ⟨(w1.heap.size + 1), 3, none⟩) (by first | omega | (simp; omega) | simp) (.int .i64 (-dy))).frozen 1
    have rf2_x6 := ((r_4).far (p := ⟨(w1.heap.size + 1), 3, none⟩) (by first | omega | (simp; omega) | simp) (.int .i64 (-dy))).frozen 2
    have rf3_x6 := ((r_4).far (p := ⟨(w1.heap.size + 1), 3, none⟩) (by first | omega | (simp; omega) | simp) (.int .i64 (-dy))).frozen 3
    obtain ⟨ra_x7, rb_x7, rc_x7, rd_x7⟩ := (((r_4).far (p := ⟨(w1.heap.size + 1), 3, none⟩) (by first | omega | (simp; omega) | simp) (.int .i64 (-dy))).set_ 0 (.int .i64 (X))).four
    have rf0_x7 := (((r_4).far (p := ⟨(w1.heap.size + 1), 3, none⟩) (by first | omega | (simp; omega) | simp) (.int .i64 (-dy))).set_ 0 (.int .i64 (X))).frozen 0
    have rf1_x7 := (((r_4).far (p := ⟨(w1.heap.size + 1), 3, none⟩) (by first | omega | (simp; omega) | simp) (.int .i64 (-dy))).set_ 0 (.int .i64 (X))).frozen 1
    have rf2_x7 := (((r_4).far (p := ⟨(w1.heap.size + 1), 3, none⟩) (by first | omega | (simp; omega) | simp) (.int .i64 (-dy))).set_ 0 (.int .i64 (X))).frozen 2
    have rf3_x7 := (((r_4).far (p := ⟨(w1.heap.size + 1), 3, none⟩) (by first | omega | (simp; omega) | simp) (.int .i64 (-dy))).set_ 0 (.int .i64 (X))).frozen 3
    obtain ⟨ra_x8, rb_x8, rc_x8, rd_x8⟩ := ((((r_4).far (p := ⟨(w1.heap.size + 1), 3, none⟩) (by first | omega | (simp; omega) | simp) (.int .i64 (-dy))).set_ 0 (.int .i64 (X))).set_ 1 (.int .i64 (Y))).four
    have rf0_x8 := ((((r_4).far (p := ⟨(w1.heap.size + 1), 3, none⟩) (by first | omega | (simp; omega) | simp) (.int .i64 (-dy))).set_ 0 (.int .i64 (X))).set_ 1 (.int .i64 (Y))).frozen 0
    have rf1_x8 := ((((r_4).far (p := ⟨(w1.heap.size + 1), 3, none⟩) (by first | omega | (simp; omega) | simp) (.int .i64 (-dy))).set_ 0 (.int .i64 (X))).set_ 1 (.int .i64 (Y))).frozen 1
    have rf2_x8 := ((((r_4).far (p := ⟨(w1.heap.size + 1), 3, none⟩) (by first | omega | (simp; omega) | simp) (.int .i64 (-dy))).set_ 0 (.int .i64 (X))).set_ 1 (.int .i64 (Y))).frozen 2
    have rf3_x8 := ((((r_4).far (p := ⟨(w1.heap.size + 1), 3, none⟩) (by first | omega | (simp; omega) | simp) (.int .i64 (-dy))).set_ 0 (.int .i64 (X))).set_ 1 (.int .i64 (Y))).frozen 3
    obtain ⟨ra_x9, rb_x9, rc_x9, rd_x9⟩ := (((((r_4).far (p := ⟨(w1.heap.size + 1), 3, none⟩) (by first | omega | (simp; omega) | simp) (.int .i64 (-dy))).set_ 0 (.int .i64 (X))).set_ 1 (.int .i64 (Y))).set_ 2 (.int .i64 (dx))).four
    have rf0_x9 := (((((r_4).far (p := ⟨(w1.heap.size + 1), 3, none⟩) (by first | omega | (simp; omega) | simp) (.int .i64 (-dy))).set_ 0 (.int .i64 (X))).set_ 1 (.int .i64 (Y))).set_ 2 (.int .i64 (dx))).frozen 0
    have rf1_x9 := (((((r_4).far (p := ⟨(w1.heap.size + 1), 3, none⟩) (by first | omega | (simp; omega) | simp) (.int .i64 (-dy))).set_ 0 (.int .i64 (X))).set_ 1 (.int .i64 (Y))).set_ 2 (.int .i64 (dx))).frozen 1
    have rf2_x9 := (((((r_4).far (p := ⟨(w1.heap.size + 1), 3, none⟩) (by first | omega | (simp; omega) | simp) (.int .i64 (-dy))).set_ 0 (.int .i64 (X))).set_ 1 (.int .i64 (Y))).set_ 2 (.int .i64 (dx))).frozen 2
    have rf3_x9 := (((((r_4).far (p := ⟨(w1.heap.size + 1), 3, none⟩) (by first | omega | (simp; omega) | simp) (.int .i64 (-dy))).set_ 0 (.int .i64 (X))).set_ 1 (.int .i64 (Y))).set_ 2 (.int .i64 (dx))).frozen 3
    obtain ⟨ra_x10, rb_x10, rc_x10, rd_x10⟩ := ((((((r_4).far (p := ⟨(w1.heap.size + 1), 3, none⟩) (by first | omega | (simp; omega) | simp) (.int .i64 (-dy))).set_ 0 (.int .i64 (X))).set_ 1 (.int .i64 (Y))).set_ 2 (.int .i64 (dx))).set_ 3 (.int .i64 (-dy))).four
    have rf0_x10 := ((((((r_4).far (p := ⟨(w1.heap.size + 1), 3, none⟩) (by first | omega | (simp; omega) | simp) (.int .i64 (-dy))).set_ 0 (.int .i64 (X))).set_ 1 (.int .i64 (Y))).set_ 2 (.int .i64 (dx))).set_ 3 (.int .i64 (-dy))).frozen 0
    have rf1_x10 := ((((((r_4).far (p := ⟨(w1.heap.size + 1), 3, none⟩) (by first | omega | (simp; omega) | simp) (.int .i64 (-dy))).set_ 0 (.int .i64 (X))).set_ 1 (.int .i64 (Y))).set_ 2 (.int .i64 (dx))).set_ 3 (.int .i64 (-dy))).frozen 1
    have rf2_x10 := ((((((r_4).far (p := ⟨(w1.heap.size + 1), 3, none⟩) (by first | omega | (simp; omega) | simp) (.int .i64 (-dy))).set_ 0 (.int .i64 (X))).set_ 1 (.int .i64 (Y))).set_ 2 (.int .i64 (dx))).set_ 3 (.int .i64 (-dy))).frozen 2
    have rf3_x10 := ((((((r_4).far (p := ⟨(w1.heap.size + 1), 3, none⟩) (by first | omega | (simp; omega) | simp) (.int .i64 (-dy))).set_ 0 (.int .i64 (X))).set_ 1 (.int .i64 (Y))).set_ 2 (.int .i64 (dx))).set_ 3 (.int .i64 (-dy))).frozen 3
    go_wp2_with fail
    go_region
    go_wp2_with fail
    obtain ⟨ra_z, rb_z, rc_z, rd_z⟩ := ((((((r_4).far (p := ⟨(w1.heap.size + 1), 3, none⟩) (by first | omega | (simp; omega) | simp) (.int .i64 (-dy))).set_ 0 (.int .i64 (X))).set_ 1 (.int .i64 (Y))).set_ 2 (.int .i64 (dx))).set_ 3 (.int .i64 (-dy))).four
    have rf0_z := ((((((r_4).far (p := ⟨(w1.heap.size + 1), 3, none⟩) (by first | omega | (simp; omega) | simp) (.int .i64 (-dy))).set_ 0 (.int .i64 (X))).set_ 1 (.int .i64 (Y))).set_ 2 (.int .i64 (dx))).set_ 3 (.int .i64 (-dy))).frozen 0
    have rf1_z := ((((((r_4).far (p := ⟨(w1.heap.size + 1), 3, none⟩) (by first | omega | (simp; omega) | simp) (.int .i64 (-dy))).set_ 0 (.int .i64 (X))).set_ 1 (.int .i64 (Y))).set_ 2 (.int .i64 (dx))).set_ 3 (.int .i64 (-dy))).frozen 1
    have rf2_z := ((((((r_4).far (p := ⟨(w1.heap.size + 1), 3, none⟩) (by first | omega | (simp; omega) | simp) (.int .i64 (-dy))).set_ 0 (.int .i64 (X))).set_ 1 (.int .i64 (Y))).set_ 2 (.int .i64 (dx))).set_ 3 (.int .i64 (-dy))).frozen 2
    have rf3_z := ((((((r_4).far (p := ⟨(w1.heap.size + 1), 3, none⟩) (by first | omega | (simp; omega) | simp) (.int .i64 (-dy))).set_ 0 (.int .i64 (X))).set_ 1 (.int .i64 (Y))).set_ 2 (.int .i64 (dx))).set_ 3 (.int .i64 (-dy))).frozen 3
    refine bodyPost_ret (v := .tuple #[.agg #[.int .i64 X, .int .i64 Y, .int .i64 (dx), .int .i64 (-dy)], .bool true]) (by simp [results, Try.results114, go_sem, ra_z, rb_z, rc_z, rd_z]) rfl ?_
    exact ⟨_, rfl, (((((((B_4).setCell (p := ⟨(w1.heap.size + 1), 3, none⟩) (by first | omega | (simp; omega) | simp) (.int .i64 (-dy))).setCell (p := ⟨(w.heap.size + 1 + 1), 0, none⟩) (by first | omega | (simp; omega) | simp) (.int .i64 (X))).setCell (p := ⟨(w.heap.size + 1 + 1), 1, none⟩) (by first | omega | (simp; omega) | simp) (.int .i64 (Y))).setCell (p := ⟨(w.heap.size + 1 + 1), 2, none⟩) (by first | omega | (simp; omega) | simp) (.int .i64 (dx))).setCell (p := ⟨(w.heap.size + 1 + 1), 3, none⟩) (by first | omega | (simp; omega) | simp) (.int .i64 (-dy)))).drew⟩
  · intro h1 h2 h3 h4 he hk hk2
    have hkE := hide (inner_at (xs := xs) hsz.out hON.out)
    have hE := hide (edge_false he)
    obtain ⟨⟨x1, x2⟩, ⟨y1, y2⟩, k, kd, hnum, hkl, hkx, hkk⟩ := hkE.out he hl
    rw [hkk] at hk hk2
    have HNUM := hide hnum
    clear hnum hkk
    clear hkE he ha
    obtain ⟨x, y, dx, dy⟩ := a
    simp only [Wk.nx, Wk.ny] at *
    generalize hX : x + dx = X at *
    generalize hY : y + dy = Y at *
    have HXY := hide (And.intro hX hY)
    clear hX hY
    have ex0 : (X == 0) = false := eqf (by omega)
    have dx0 := dec_of ex0
    have ex2 : (X == 2 * wd) = false := eqf (by omega)
    have dx2 := dec_of ex2
    have ey0 : (Y == 0) = false := eqf (by omega)
    have dy0 := dec_of ey0
    have ey2 : (Y == 2 * ht) = false := eqf (by omega)
    have dy2 := dec_of ey2
    have ek1 : (kd == 1) = false := eqf (by omega)
    have dk1 := dec_of ek1
    have ek2 : (kd == 2) = false := eqf (by omega)
    have dk2 := dec_of ek2
    clear h1 h2 h3 h4 hk hk2
    obtain ⟨s1, s2, s3, s4⟩ := hsz.out
    have b1 : (-dx != dx) = true := by rcases g5 with rfl | rfl <;> rfl
    have b2 : (-dy != dy) = true := by rcases g6 with rfl | rfl <;> rfl
    have b3 : (dx != dx) = false := by simp
    have b4 : (dy != dy) = false := by simp
    obtain ⟨wka_x1, wkb_x1, wkc_x1, wkd_x1⟩ := ((Bx.new_ (w.alloc (.cells #[.int .i64 wd, .int .i64 ht, .slice A xs.length c] 36)) (w.heap.size + 1) 112 #[.int .i64 x, .int .i64 y, .int .i64 dx, .int .i64 dy] (by simp)).alloc (.cells #[.int .i64 0, .int .i64 0, .int .i64 0, .int .i64 0] 112)).four
    obtain ⟨pa_x1, pb_x1, pc_x1⟩ := (((Bx.new_ w (w.heap.size) 36 #[.int .i64 wd, .int .i64 ht, .slice A xs.length c] (by simp)).alloc (.cells #[.int .i64 x, .int .i64 y, .int .i64 dx, .int .i64 dy] 112)).alloc (.cells #[.int .i64 0, .int .i64 0, .int .i64 0, .int .i64 0] 112)).three
    go_enter Try.func114, Try.ntmps114
    go_wp2_with fail
    refine ((HX.out _)).mono ?_
    rintro e w1 ⟨rfl, hb1⟩
    have p_1 := (((Bx.new_ w (w.heap.size) 36 #[.int .i64 wd, .int .i64 ht, .slice A xs.length c] (by simp)).alloc (.cells #[.int .i64 x, .int .i64 y, .int .i64 dx, .int .i64 dy] 112)).alloc (.cells #[.int .i64 0, .int .i64 0, .int .i64 0, .int .i64 0] 112)).below hb1
    obtain ⟨pa_1, pb_1, pc_1⟩ := (p_1).three
    have wk_1 := ((Bx.new_ (w.alloc (.cells #[.int .i64 wd, .int .i64 ht, .slice A xs.length c] 36)) (w.heap.size + 1) 112 #[.int .i64 x, .int .i64 y, .int .i64 dx, .int .i64 dy] (by simp)).alloc (.cells #[.int .i64 0, .int .i64 0, .int .i64 0, .int .i64 0] 112)).below hb1
    obtain ⟨wka_1, wkb_1, wkc_1, wkd_1⟩ := (wk_1).four
    have r_1 := (Bx.new_ ((w.alloc (.cells #[.int .i64 wd, .int .i64 ht, .slice A xs.length c] 36)).alloc (.cells #[.int .i64 x, .int .i64 y, .int .i64 dx, .int .i64 dy] 112)) (w.heap.size + 1 + 1) 112 #[.int .i64 0, .int .i64 0, .int .i64 0, .int .i64 0] (by simp)).below hb1
    obtain ⟨ra_1, rb_1, rc_1, rd_1⟩ := (r_1).four
    have rf0_1 := (r_1).frozen 0
    have rf1_1 := (r_1).frozen 1
    have rf2_1 := (r_1).frozen 2
    have rf3_1 := (r_1).frozen 3
    have z_1 : (((w.alloc (.cells #[.int .i64 wd, .int .i64 ht, .slice A xs.length c] 36)).alloc (.cells #[.int .i64 x, .int .i64 y, .int .i64 dx, .int .i64 dy] 112)).alloc (.cells #[.int .i64 0, .int .i64 0, .int .i64 0, .int .i64 0] 112)).heap.size ≤ w1.heap.size := hb1.size
    simp only [World.size_alloc] at z_1
    have B_1 := ((((Below.refl w.heap.size w).alloc (by first | omega | (simp; omega) | simp) (.cells #[.int .i64 wd, .int .i64 ht, .slice A xs.length c] 36)).alloc (by first | omega | (simp; omega) | simp) (.cells #[.int .i64 x, .int .i64 y, .int .i64 dx, .int .i64 dy] 112)).alloc (by first | omega | (simp; omega) | simp) (.cells #[.int .i64 0, .int .i64 0, .int .i64 0, .int .i64 0] 112)).trans (hb1.mono (by first | omega | (simp; omega) | simp))
    obtain ⟨wka_b, wkb_b, wkc_b, wkd_b⟩ := ((wk_1).alloc (.cells #[.int .i64 X, .int .i64 Y] 110)).four
    obtain ⟨qa_b, qb_b⟩ := (Bx.new_ w1 (w1.heap.size) 110 #[.int .i64 X, .int .i64 Y] (by simp)).two
    obtain ⟨pa_b, pb_b, pc_b⟩ := ((p_1).alloc (.cells #[.int .i64 X, .int .i64 Y] 110)).three
    obtain ⟨qa_x3, qb_x3⟩ := ((Bx.new_ w1 (w1.heap.size) 110 #[.int .i64 X, .int .i64 Y] (by simp)).alloc (.cells #[.int .i64 X, .int .i64 Y, .int .i64 dx, .int .i64 dy] 112)).two
    obtain ⟨oa_x3, ob_x3, oc_x3, od_x3⟩ := (Bx.new_ (w1.alloc (.cells #[.int .i64 X, .int .i64 Y] 110)) (w1.heap.size + 1) 112 #[.int .i64 X, .int .i64 Y, .int .i64 dx, .int .i64 dy] (by simp)).four
    have of0_x3 := (Bx.new_ (w1.alloc (.cells #[.int .i64 X, .int .i64 Y] 110)) (w1.heap.size + 1) 112 #[.int .i64 X, .int .i64 Y, .int .i64 dx, .int .i64 dy] (by simp)).frozen 0
    have of1_x3 := (Bx.new_ (w1.alloc (.cells #[.int .i64 X, .int .i64 Y] 110)) (w1.heap.size + 1) 112 #[.int .i64 X, .int .i64 Y, .int .i64 dx, .int .i64 dy] (by simp)).frozen 1
    have of2_x3 := (Bx.new_ (w1.alloc (.cells #[.int .i64 X, .int .i64 Y] 110)) (w1.heap.size + 1) 112 #[.int .i64 X, .int .i64 Y, .int .i64 dx, .int .i64 dy] (by simp)).frozen 2
    have of3_x3 := (Bx.new_ (w1.alloc (.cells #[.int .i64 X, .int .i64 Y] 110)) (w1.heap.size + 1) 112 #[.int .i64 X, .int .i64 Y, .int .i64 dx, .int .i64 dy] (by simp)).frozen 3
    obtain ⟨wka_x3, wkb_x3, wkc_x3, wkd_x3⟩ := (((wk_1).alloc (.cells #[.int .i64 X, .int .i64 Y] 110)).alloc (.cells #[.int .i64 X, .int .i64 Y, .int .i64 dx, .int .i64 dy] 112)).four
    obtain ⟨pa_x3, pb_x3, pc_x3⟩ := (((p_1).alloc (.cells #[.int .i64 X, .int .i64 Y] 110)).alloc (.cells #[.int .i64 X, .int .i64 Y, .int .i64 dx, .int .i64 dy] 112)).three
    go_wp2_with fail
    refine ((isBorder_any wd ht X Y A c xs _ hsz.out)).mono ?_
    rintro e w3 ⟨rfl, hb3⟩
    have p_3 := (((p_1).alloc (.cells #[.int .i64 X, .int .i64 Y] 110)).alloc (.cells #[.int .i64 X, .int .i64 Y, .int .i64 dx, .int .i64 dy] 112)).below hb3
    obtain ⟨pa_3, pb_3, pc_3⟩ := (p_3).three
    have wk_3 := (((wk_1).alloc (.cells #[.int .i64 X, .int .i64 Y] 110)).alloc (.cells #[.int .i64 X, .int .i64 Y, .int .i64 dx, .int .i64 dy] 112)).below hb3
    obtain ⟨wka_3, wkb_3, wkc_3, wkd_3⟩ := (wk_3).four
    have r_3 := (((r_1).alloc (.cells #[.int .i64 X, .int .i64 Y] 110)).alloc (.cells #[.int .i64 X, .int .i64 Y, .int .i64 dx, .int .i64 dy] 112)).below hb3
    obtain ⟨ra_3, rb_3, rc_3, rd_3⟩ := (r_3).four
    have rf0_3 := (r_3).frozen 0
    have rf1_3 := (r_3).frozen 1
    have rf2_3 := (r_3).frozen 2
    have rf3_3 := (r_3).frozen 3
    have q_3 := ((Bx.new_ w1 (w1.heap.size) 110 #[.int .i64 X, .int .i64 Y] (by simp)).alloc (.cells #[.int .i64 X, .int .i64 Y, .int .i64 dx, .int .i64 dy] 112)).below hb3
    obtain ⟨qa_3, qb_3⟩ := (q_3).two
    have o_3 := (Bx.new_ (w1.alloc (.cells #[.int .i64 X, .int .i64 Y] 110)) (w1.heap.size + 1) 112 #[.int .i64 X, .int .i64 Y, .int .i64 dx, .int .i64 dy] (by simp)).below hb3
    obtain ⟨oa_3, ob_3, oc_3, od_3⟩ := (o_3).four
    have of0_3 := (o_3).frozen 0
    have of1_3 := (o_3).frozen 1
    have of2_3 := (o_3).frozen 2
    have of3_3 := (o_3).frozen 3
    have z_3 : ((w1.alloc (.cells #[.int .i64 X, .int .i64 Y] 110)).alloc (.cells #[.int .i64 X, .int .i64 Y, .int .i64 dx, .int .i64 dy] 112)).heap.size ≤ w3.heap.size := hb3.size
    simp only [World.size_alloc] at z_3
    have B_3 := (((B_1).alloc (by first | omega | (simp; omega) | simp) (.cells #[.int .i64 X, .int .i64 Y] 110)).alloc (by first | omega | (simp; omega) | simp) (.cells #[.int .i64 X, .int .i64 Y, .int .i64 dx, .int .i64 dy] 112)).trans (hb3.mono (by first | omega | (simp; omega) | simp))
    rw [hE.out]
    obtain ⟨ra_c, rb_c, rc_c, rd_c⟩ := (r_3).four
    have rf0_c := (r_3).frozen 0
    have rf1_c := (r_3).frozen 1
    have rf2_c := (r_3).frozen 2
    have rf3_c := (r_3).frozen 3
    obtain ⟨oa_c, ob_c, oc_c, od_c⟩ := (o_3).four
    have of0_c := (o_3).frozen 0
    have of1_c := (o_3).frozen 1
    have of2_c := (o_3).frozen 2
    have of3_c := (o_3).frozen 3
    obtain ⟨qa_c, qb_c⟩ := (q_3).two
    obtain ⟨pa_c, pb_c, pc_c⟩ := (p_3).three
    obtain ⟨wka_c, wkb_c, wkc_c, wkd_c⟩ := (wk_3).four
    have hC0 : Below w3.heap.size w3 w3.drew := (Below.refl _ _).drew
    have hpl := (p_3)
    have hql := (q_3)
    have f0 : ∀ v : BelowOf w3, v.w.cell? ⟨w.heap.size, 2, none⟩ = some (.slice A xs.length c) := fun v => (hpl.below v.h).three.2.2
    have f3 : ∀ v : BelowOf w3, v.w.cell? ⟨w.heap.size, 0, none⟩ = some (.int .i64 wd) := fun v => (hpl.below v.h).three.1
    have f4 : ∀ v : BelowOf w3, v.w.cell? ⟨w.heap.size, 1, none⟩ = some (.int .i64 ht) := fun v => (hpl.below v.h).three.2.1
    have f1 : ∀ v : BelowOf w3, v.w.cell? ⟨w1.heap.size, 0, none⟩ = some (.int .i64 X) := fun v => (hql.below v.h).two.1
    have f2 : ∀ v : BelowOf w3, v.w.cell? ⟨w1.heap.size, 1, none⟩ = some (.int .i64 Y) := fun v => (hql.below v.h).two.2
    have hrd := hxs.below (B_3)
    obtain ⟨b, off, kd', rfl, hb, hkx', hc⟩ := hrd.at_ (k := k) hkl
    obtain rfl : kd' = kd := by rw [hkx] at hkx'; injection hkx' with h; exact h.symm
    have hcp : ∀ v : BelowOf w3, v.w.cell? ⟨b, off + k, none⟩ = some (.int .i64 kd') := fun v => by
      obtain ⟨b', off', kd2, e1, _, e2, e3⟩ := (hrd.below v.h).at_ (k := k) hkl
      injection e1 with e1
      injection e1 with e4 e5
      subst e4 e5
      rw [hkx'] at e2
      injection e2 with e2
      subst e2
      exact e3
    have HCN : ∀ v : BelowOf w3, Calls Try.prog 131 #[.agg #[.int .i64 wd, .int .i64 ht, .slice (some ⟨b, off, none⟩) xs.length c], .agg #[.int .i64 X, .int .i64 Y]] v.w (RetV v.w (.int .i64 (k : Int))) := fun v => by
      rw [← HNUM.out]
      exact number_any wd ht X Y _ c xs v.w hsz.out.1 hsz.out.2.1 y1 y2 x1 x2 hON.out.2.2.2.2
    go_wp2_with fail
    refine region_below (by kernel_rfl) (by kernel_rfl) hC0 ?_
    repeat (go_big_quiet_step (first | exact BelowOf.ret (HCN _)))
    refine wpQuiet_nil ?_
    rintro w4 ⟨⟨w4, hb4⟩, rfl⟩
    have p_4 := (p_3).below hb4
    obtain ⟨pa_4, pb_4, pc_4⟩ := (p_4).three
    have wk_4 := (wk_3).below hb4
    obtain ⟨wka_4, wkb_4, wkc_4, wkd_4⟩ := (wk_4).four
    have r_4 := (r_3).below hb4
    obtain ⟨ra_4, rb_4, rc_4, rd_4⟩ := (r_4).four
    have rf0_4 := (r_4).frozen 0
    have rf1_4 := (r_4).frozen 1
    have rf2_4 := (r_4).frozen 2
    have rf3_4 := (r_4).frozen 3
    have q_4 := (q_3).below hb4
    obtain ⟨qa_4, qb_4⟩ := (q_4).two
    have o_4 := (o_3).below hb4
    obtain ⟨oa_4, ob_4, oc_4, od_4⟩ := (o_4).four
    have of0_4 := (o_4).frozen 0
    have of1_4 := (o_4).frozen 1
    have of2_4 := (o_4).frozen 2
    have of3_4 := (o_4).frozen 3
    have z_4 : w3.heap.size ≤ w4.heap.size := hb4.size
    have B_4 := (B_3).trans (hb4.mono (by first | omega | (simp; omega) | simp))
    clear f0 f1 f2 f3 f4 hcp HCN
    obtain ⟨oa_d, ob_d, oc_d, od_d⟩ := (o_4).four
    have of0_d := (o_4).frozen 0
    have of1_d := (o_4).frozen 1
    have of2_d := (o_4).frozen 2
    have of3_d := (o_4).frozen 3
    obtain ⟨qa_d, qb_d⟩ := (q_4).two
    obtain ⟨pa_d, pb_d, pc_d⟩ := (p_4).three
    obtain ⟨wka_d, wkb_d, wkc_d, wkd_d⟩ := (wk_4).four
    obtain ⟨ra_d, rb_d, rc_d, rd_d⟩ := (r_4).four
    have rf0_d := (r_4).frozen 0
    have rf1_d := (r_4).frozen 1
    have rf2_d := (r_4).frozen 2
    have rf3_d := (r_4).frozen 3
    obtain ⟨oa_x6, ob_x6, oc_x6, od_x6⟩ := (o_4).four
    have of0_x6 := (o_4).frozen 0
    have of1_x6 := (o_4).frozen 1
    have of2_x6 := (o_4).frozen 2
    have of3_x6 := (o_4).frozen 3
    obtain ⟨qa_x6, qb_x6⟩ := (q_4).two
    obtain ⟨pa_x6, pb_x6, pc_x6⟩ := (p_4).three
    obtain ⟨wka_x6, wkb_x6, wkc_x6, wkd_x6⟩ := (wk_4).four
    obtain ⟨ra_x6, rb_x6, rc_x6, rd_x6⟩ := (r_4).four
    have rf0_x6 := (r_4).frozen 0
    have rf1_x6 := (r_4).frozen 1
    have rf2_x6 := (r_4).frozen 2
    have rf3_x6 := (r_4).frozen 3
    obtain ⟨ra_x7, rb_x7, rc_x7, rd_x7⟩ := ((r_4).set_ 0 (.int .i64 (X))).four
    have rf0_x7 := ((r_4).set_ 0 (.int .i64 (X))).frozen 0
    have rf1_x7 := ((r_4).set_ 0 (.int .i64 (X))).frozen 1
    have rf2_x7 := ((r_4).set_ 0 (.int .i64 (X))).frozen 2
    have rf3_x7 := ((r_4).set_ 0 (.int .i64 (X))).frozen 3
    obtain ⟨ra_x8, rb_x8, rc_x8, rd_x8⟩ := (((r_4).set_ 0 (.int .i64 (X))).set_ 1 (.int .i64 (Y))).four
    have rf0_x8 := (((r_4).set_ 0 (.int .i64 (X))).set_ 1 (.int .i64 (Y))).frozen 0
    have rf1_x8 := (((r_4).set_ 0 (.int .i64 (X))).set_ 1 (.int .i64 (Y))).frozen 1
    have rf2_x8 := (((r_4).set_ 0 (.int .i64 (X))).set_ 1 (.int .i64 (Y))).frozen 2
    have rf3_x8 := (((r_4).set_ 0 (.int .i64 (X))).set_ 1 (.int .i64 (Y))).frozen 3
    obtain ⟨ra_x9, rb_x9, rc_x9, rd_x9⟩ := ((((r_4).set_ 0 (.int .i64 (X))).set_ 1 (.int .i64 (Y))).set_ 2 (.int .i64 (dx))).four
    have rf0_x9 := ((((r_4).set_ 0 (.int .i64 (X))).set_ 1 (.int .i64 (Y))).set_ 2 (.int .i64 (dx))).frozen 0
    have rf1_x9 := ((((r_4).set_ 0 (.int .i64 (X))).set_ 1 (.int .i64 (Y))).set_ 2 (.int .i64 (dx))).frozen 1
    have rf2_x9 := ((((r_4).set_ 0 (.int .i64 (X))).set_ 1 (.int .i64 (Y))).set_ 2 (.int .i64 (dx))).frozen 2
    have rf3_x9 := ((((r_4).set_ 0 (.int .i64 (X))).set_ 1 (.int .i64 (Y))).set_ 2 (.int .i64 (dx))).frozen 3
    obtain ⟨ra_x10, rb_x10, rc_x10, rd_x10⟩ := (((((r_4).set_ 0 (.int .i64 (X))).set_ 1 (.int .i64 (Y))).set_ 2 (.int .i64 (dx))).set_ 3 (.int .i64 (dy))).four
    have rf0_x10 := (((((r_4).set_ 0 (.int .i64 (X))).set_ 1 (.int .i64 (Y))).set_ 2 (.int .i64 (dx))).set_ 3 (.int .i64 (dy))).frozen 0
    have rf1_x10 := (((((r_4).set_ 0 (.int .i64 (X))).set_ 1 (.int .i64 (Y))).set_ 2 (.int .i64 (dx))).set_ 3 (.int .i64 (dy))).frozen 1
    have rf2_x10 := (((((r_4).set_ 0 (.int .i64 (X))).set_ 1 (.int .i64 (Y))).set_ 2 (.int .i64 (dx))).set_ 3 (.int .i64 (dy))).frozen 2
    have rf3_x10 := (((((r_4).set_ 0 (.int .i64 (X))).set_ 1 (.int .i64 (Y))).set_ 2 (.int .i64 (dx))).set_ 3 (.int .i64 (dy))).frozen 3
    go_wp2_with fail
    go_region
    go_wp2_with fail
    obtain ⟨ra_z, rb_z, rc_z, rd_z⟩ := (((((r_4).set_ 0 (.int .i64 (X))).set_ 1 (.int .i64 (Y))).set_ 2 (.int .i64 (dx))).set_ 3 (.int .i64 (dy))).four
    have rf0_z := (((((r_4).set_ 0 (.int .i64 (X))).set_ 1 (.int .i64 (Y))).set_ 2 (.int .i64 (dx))).set_ 3 (.int .i64 (dy))).frozen 0
    have rf1_z := (((((r_4).set_ 0 (.int .i64 (X))).set_ 1 (.int .i64 (Y))).set_ 2 (.int .i64 (dx))).set_ 3 (.int .i64 (dy))).frozen 1
    have rf2_z := (((((r_4).set_ 0 (.int .i64 (X))).set_ 1 (.int .i64 (Y))).set_ 2 (.int .i64 (dx))).set_ 3 (.int .i64 (dy))).frozen 2
    have rf3_z := (((((r_4).set_ 0 (.int .i64 (X))).set_ 1 (.int .i64 (Y))).set_ 2 (.int .i64 (dx))).set_ 3 (.int .i64 (dy))).frozen 3
    refine bodyPost_ret (v := .tuple #[.agg #[.int .i64 X, .int .i64 Y, .int .i64 (dx), .int .i64 (dy)], .bool false]) (by simp [results, Try.results114, go_sem, ra_z, rb_z, rc_z, rd_z]) rfl ?_
    exact ⟨_, rfl, ((((((B_4).setCell (p := ⟨(w.heap.size + 1 + 1), 0, none⟩) (by first | omega | (simp; omega) | simp) (.int .i64 (X))).setCell (p := ⟨(w.heap.size + 1 + 1), 1, none⟩) (by first | omega | (simp; omega) | simp) (.int .i64 (Y))).setCell (p := ⟨(w.heap.size + 1 + 1), 2, none⟩) (by first | omega | (simp; omega) | simp) (.int .i64 (dx))).setCell (p := ⟨(w.heap.size + 1 + 1), 3, none⟩) (by first | omega | (simp; omega) | simp) (.int .i64 (dy)))).drew⟩
end Go.Proofs.Ytnjojnnapdhijaa
