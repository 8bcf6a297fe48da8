/-
  Contracts: segments of walkers, walkers of segments, slopes. Conditions: a valid panel's sides, walkers of the panel.
-/
import Derived.Test.YtnjojnnapdhijaaTr2
import Derived.Test.YtnjojnnapdhijaaTr3
namespace Go.Proofs.Ytnjojnnapdhijaa
open Go.RowKit
set_option linter.unusedVariables false


set_option maxHeartbeats 2000000 in
theorem l03Left_any (wd ht : Int) (a : Wk) (w : World) (hs : Sz wd ht) (ha : OkW wd ht a) :
    Calls Try.prog 176 #[.agg #[.int .i64 a.x, .int .i64 a.y, .int .i64 a.dx, .int .i64 a.dy]] w (RetV w (.tuple #[.agg #[.int .i64 (if a.dx = 1 then a.x else a.nx), .int .i64 (if a.dx = 1 then a.y else a.ny)], .int .i64 (if a.dx = 1 then a.ny else a.y)])) := by
  have HX := hide (fun W => l03Next_any wd ht a W hs ha)
  obtain ⟨g1, g2, g3, g4, g5, g6⟩ := ha.bounds hs
  clear ha
  obtain ⟨x, y, dx, dy⟩ := a
  simp only [Wk.nx, Wk.ny] at *
  generalize hX : x + dx = X at *
  generalize hY : y + dy = Y at *
  clear hX hY
  rcases g5 with hd | hd

  ·
    have e1 : (dx == 1) = true := eqt (by omega)
    have hr : (if dx = 1 then x else X) = x := by rw [hd]; rfl
    have hr2 : (if dx = 1 then y else Y) = y := by rw [hd]; rfl
    have hr3 : (if dx = 1 then Y else y) = Y := by rw [hd]; rfl
    rw [hr, hr2, hr3]
    clear hr hr2 hr3 hd
    obtain ⟨wka_x1, wkb_x1, wkc_x1, wkd_x1⟩ := ((Bx.new_ w (w.heap.size) 112 #[.int .i64 x, .int .i64 y, .int .i64 dx, .int .i64 dy] (by simp)).alloc (.cells #[.int .i64 0, .int .i64 0] 110)).four
    go_enter Try.func176, Try.ntmps176
    go_wp2_with fail
    refine ((HX.out _)).mono ?_
    rintro e w1 ⟨rfl, hb1⟩
    have wk_1 := ((Bx.new_ w (w.heap.size) 112 #[.int .i64 x, .int .i64 y, .int .i64 dx, .int .i64 dy] (by simp)).alloc (.cells #[.int .i64 0, .int .i64 0] 110)).below hb1
    obtain ⟨wka_1, wkb_1, wkc_1, wkd_1⟩ := (wk_1).four
    have r_1 := (Bx.new_ (w.alloc (.cells #[.int .i64 x, .int .i64 y, .int .i64 dx, .int .i64 dy] 112)) (w.heap.size + 1) 110 #[.int .i64 0, .int .i64 0] (by simp)).below hb1
    obtain ⟨ra_1, rb_1⟩ := (r_1).two
    have rf0_1 := (r_1).frozen 0
    have rf1_1 := (r_1).frozen 1
    have z_1 : ((w.alloc (.cells #[.int .i64 x, .int .i64 y, .int .i64 dx, .int .i64 dy] 112)).alloc (.cells #[.int .i64 0, .int .i64 0] 110)).heap.size ≤ w1.heap.size := hb1.size
    simp only [World.size_alloc] at z_1
    have B_1 := (((Below.refl w.heap.size w).alloc (by first | omega | (simp; omega) | simp) (.cells #[.int .i64 x, .int .i64 y, .int .i64 dx, .int .i64 dy] 112)).alloc (by first | omega | (simp; omega) | simp) (.cells #[.int .i64 0, .int .i64 0] 110)).trans (hb1.mono (by first | omega | (simp; omega) | simp))
    obtain ⟨wka_b, wkb_b, wkc_b, wkd_b⟩ := ((wk_1).alloc (.cells #[.int .i64 X, .int .i64 Y] 110)).four
    obtain ⟨qa_b, qb_b⟩ := (Bx.new_ w1 (w1.heap.size) 110 #[.int .i64 X, .int .i64 Y] (by simp)).two
    obtain ⟨ra_b, rb_b⟩ := ((r_1).alloc (.cells #[.int .i64 X, .int .i64 Y] 110)).two
    have rf0_b := ((r_1).alloc (.cells #[.int .i64 X, .int .i64 Y] 110)).frozen 0
    have rf1_b := ((r_1).alloc (.cells #[.int .i64 X, .int .i64 Y] 110)).frozen 1
    obtain ⟨ra_x3, rb_x3⟩ := (((r_1).alloc (.cells #[.int .i64 X, .int .i64 Y] 110)).set_ 0 (.int .i64 x)).two
    have rf0_x3 := (((r_1).alloc (.cells #[.int .i64 X, .int .i64 Y] 110)).set_ 0 (.int .i64 x)).frozen 0
    have rf1_x3 := (((r_1).alloc (.cells #[.int .i64 X, .int .i64 Y] 110)).set_ 0 (.int .i64 x)).frozen 1
    obtain ⟨wka_x3, wkb_x3, wkc_x3, wkd_x3⟩ := (((wk_1).alloc (.cells #[.int .i64 X, .int .i64 Y] 110)).far (p := ⟨(w.heap.size + 1), 0, none⟩) (by first | omega | (simp; omega) | simp) (.int .i64 x)).four
    obtain ⟨qa_x3, qb_x3⟩ := ((Bx.new_ w1 (w1.heap.size) 110 #[.int .i64 X, .int .i64 Y] (by simp)).far (p := ⟨(w.heap.size + 1), 0, none⟩) (by first | omega | (simp; omega) | simp) (.int .i64 x)).two
    obtain ⟨ra_x4, rb_x4⟩ := ((((r_1).alloc (.cells #[.int .i64 X, .int .i64 Y] 110)).set_ 0 (.int .i64 x)).set_ 1 (.int .i64 y)).two
    have rf0_x4 := ((((r_1).alloc (.cells #[.int .i64 X, .int .i64 Y] 110)).set_ 0 (.int .i64 x)).set_ 1 (.int .i64 y)).frozen 0
    have rf1_x4 := ((((r_1).alloc (.cells #[.int .i64 X, .int .i64 Y] 110)).set_ 0 (.int .i64 x)).set_ 1 (.int .i64 y)).frozen 1
    obtain ⟨wka_x4, wkb_x4, wkc_x4, wkd_x4⟩ := ((((wk_1).alloc (.cells #[.int .i64 X, .int .i64 Y] 110)).far (p := ⟨(w.heap.size + 1), 0, none⟩) (by first | omega | (simp; omega) | simp) (.int .i64 x)).far (p := ⟨(w.heap.size + 1), 1, none⟩) (by first | omega | (simp; omega) | simp) (.int .i64 y)).four
    obtain ⟨qa_x4, qb_x4⟩ := (((Bx.new_ w1 (w1.heap.size) 110 #[.int .i64 X, .int .i64 Y] (by simp)).far (p := ⟨(w.heap.size + 1), 0, none⟩) (by first | omega | (simp; omega) | simp) (.int .i64 x)).far (p := ⟨(w.heap.size + 1), 1, none⟩) (by first | omega | (simp; omega) | simp) (.int .i64 y)).two
    go_wp2_with fail
    go_region
    go_wp2_with fail
    refine bodyPost_ret (v := .tuple #[.agg #[.int .i64 x, .int .i64 y], .int .i64 Y]) (by simp [results, Try.results176, go_sem, ra_x3, rb_x3]) rfl ?_
    exact ⟨rfl, (((((B_1).alloc (by first | omega | (simp; omega) | simp) (.cells #[.int .i64 X, .int .i64 Y] 110)).setCell (p := ⟨(w.heap.size + 1), 0, none⟩) (by first | omega | (simp; omega) | simp) (.int .i64 x)).setCell (p := ⟨(w.heap.size + 1), 1, none⟩) (by first | omega | (simp; omega) | simp) (.int .i64 y))).drew⟩
  ·
    have e1 : (dx == 1) = false := eqf (by omega)
    have hr : (if dx = 1 then x else X) = X := by rw [hd]; rfl
    have hr2 : (if dx = 1 then y else Y) = Y := by rw [hd]; rfl
    have hr3 : (if dx = 1 then Y else y) = y := by rw [hd]; rfl
    rw [hr, hr2, hr3]
    clear hr hr2 hr3 hd
    obtain ⟨wka_x1, wkb_x1, wkc_x1, wkd_x1⟩ := ((Bx.new_ w (w.heap.size) 112 #[.int .i64 x, .int .i64 y, .int .i64 dx, .int .i64 dy] (by simp)).alloc (.cells #[.int .i64 0, .int .i64 0] 110)).four
    go_enter Try.func176, Try.ntmps176
    go_wp2_with fail
    refine ((HX.out _)).mono ?_
    rintro e w1 ⟨rfl, hb1⟩
    have wk_1 := ((Bx.new_ w (w.heap.size) 112 #[.int .i64 x, .int .i64 y, .int .i64 dx, .int .i64 dy] (by simp)).alloc (.cells #[.int .i64 0, .int .i64 0] 110)).below hb1
    obtain ⟨wka_1, wkb_1, wkc_1, wkd_1⟩ := (wk_1).four
    have r_1 := (Bx.new_ (w.alloc (.cells #[.int .i64 x, .int .i64 y, .int .i64 dx, .int .i64 dy] 112)) (w.heap.size + 1) 110 #[.int .i64 0, .int .i64 0] (by simp)).below hb1
    obtain ⟨ra_1, rb_1⟩ := (r_1).two
    have rf0_1 := (r_1).frozen 0
    have rf1_1 := (r_1).frozen 1
    have z_1 : ((w.alloc (.cells #[.int .i64 x, .int .i64 y, .int .i64 dx, .int .i64 dy] 112)).alloc (.cells #[.int .i64 0, .int .i64 0] 110)).heap.size ≤ w1.heap.size := hb1.size
    simp only [World.size_alloc] at z_1
    have B_1 := (((Below.refl w.heap.size w).alloc (by first | omega | (simp; omega) | simp) (.cells #[.int .i64 x, .int .i64 y, .int .i64 dx, .int .i64 dy] 112)).alloc (by first | omega | (simp; omega) | simp) (.cells #[.int .i64 0, .int .i64 0] 110)).trans (hb1.mono (by first | omega | (simp; omega) | simp))
    obtain ⟨wka_b, wkb_b, wkc_b, wkd_b⟩ := ((wk_1).alloc (.cells #[.int .i64 X, .int .i64 Y] 110)).four
    obtain ⟨qa_b, qb_b⟩ := (Bx.new_ w1 (w1.heap.size) 110 #[.int .i64 X, .int .i64 Y] (by simp)).two
    obtain ⟨ra_b, rb_b⟩ := ((r_1).alloc (.cells #[.int .i64 X, .int .i64 Y] 110)).two
    have rf0_b := ((r_1).alloc (.cells #[.int .i64 X, .int .i64 Y] 110)).frozen 0
    have rf1_b := ((r_1).alloc (.cells #[.int .i64 X, .int .i64 Y] 110)).frozen 1
    obtain ⟨ra_x3, rb_x3⟩ := (((r_1).alloc (.cells #[.int .i64 X, .int .i64 Y] 110)).set_ 0 (.int .i64 X)).two
    have rf0_x3 := (((r_1).alloc (.cells #[.int .i64 X, .int .i64 Y] 110)).set_ 0 (.int .i64 X)).frozen 0
    have rf1_x3 := (((r_1).alloc (.cells #[.int .i64 X, .int .i64 Y] 110)).set_ 0 (.int .i64 X)).frozen 1
    obtain ⟨wka_x3, wkb_x3, wkc_x3, wkd_x3⟩ := (((wk_1).alloc (.cells #[.int .i64 X, .int .i64 Y] 110)).far (p := ⟨(w.heap.size + 1), 0, none⟩) (by first | omega | (simp; omega) | simp) (.int .i64 X)).four
    obtain ⟨qa_x3, qb_x3⟩ := ((Bx.new_ w1 (w1.heap.size) 110 #[.int .i64 X, .int .i64 Y] (by simp)).far (p := ⟨(w.heap.size + 1), 0, none⟩) (by first | omega | (simp; omega) | simp) (.int .i64 X)).two
    obtain ⟨ra_x4, rb_x4⟩ := ((((r_1).alloc (.cells #[.int .i64 X, .int .i64 Y] 110)).set_ 0 (.int .i64 X)).set_ 1 (.int .i64 Y)).two
    have rf0_x4 := ((((r_1).alloc (.cells #[.int .i64 X, .int .i64 Y] 110)).set_ 0 (.int .i64 X)).set_ 1 (.int .i64 Y)).frozen 0
    have rf1_x4 := ((((r_1).alloc (.cells #[.int .i64 X, .int .i64 Y] 110)).set_ 0 (.int .i64 X)).set_ 1 (.int .i64 Y)).frozen 1
    obtain ⟨wka_x4, wkb_x4, wkc_x4, wkd_x4⟩ := ((((wk_1).alloc (.cells #[.int .i64 X, .int .i64 Y] 110)).far (p := ⟨(w.heap.size + 1), 0, none⟩) (by first | omega | (simp; omega) | simp) (.int .i64 X)).far (p := ⟨(w.heap.size + 1), 1, none⟩) (by first | omega | (simp; omega) | simp) (.int .i64 Y)).four
    obtain ⟨qa_x4, qb_x4⟩ := (((Bx.new_ w1 (w1.heap.size) 110 #[.int .i64 X, .int .i64 Y] (by simp)).far (p := ⟨(w.heap.size + 1), 0, none⟩) (by first | omega | (simp; omega) | simp) (.int .i64 X)).far (p := ⟨(w.heap.size + 1), 1, none⟩) (by first | omega | (simp; omega) | simp) (.int .i64 Y)).two
    go_wp2_with fail
    go_region
    go_wp2_with fail
    refine bodyPost_ret (v := .tuple #[.agg #[.int .i64 X, .int .i64 Y], .int .i64 y]) (by simp [results, Try.results176, go_sem, ra_x3, rb_x3]) rfl ?_
    exact ⟨rfl, (((((B_1).alloc (by first | omega | (simp; omega) | simp) (.cells #[.int .i64 X, .int .i64 Y] 110)).setCell (p := ⟨(w.heap.size + 1), 0, none⟩) (by first | omega | (simp; omega) | simp) (.int .i64 X)).setCell (p := ⟨(w.heap.size + 1), 1, none⟩) (by first | omega | (simp; omega) | simp) (.int .i64 Y))).drew⟩

set_option maxHeartbeats 4000000 in
theorem l03Segment_any (b0 : Nat) (wd ht : Int) (A : Option Addr) (c : Nat) (xs : List Int) (a : Wk) (w : World) (hp : PA w b0 wd ht A c xs) (hs : Sz wd ht) (ha : OkW wd ht a) :
    Calls Try.prog 172 #[.pointer (some ⟨b0, 0, none⟩), .agg #[.int .i64 a.x, .int .i64 a.y, .int .i64 a.dx, .int .i64 a.dy]] w (RetV w (.int .i64 (segW ht a))) := by
  rw [seg_a ha]
  have HX := hide (fun W => l03Left_any wd ht a W hs ha)
  obtain ⟨g1, g2, g3, g4, g5, g6⟩ := ha.bounds hs
  obtain ⟨s1, s2, s3, s4⟩ := hs
  have k1 : a.nx = a.x + a.dx := rfl
  have k2 : a.ny = a.y + a.dy := rfl
  refine ha.four (fun e1 e2 => ?_) (fun e1 e2 => ?_) (fun e1 e2 => ?_) (fun e1 e2 => ?_)

  ·
    have r1 : (if a.dx = 1 then a.x else a.nx) = a.x := by rw [e1]; rfl
    have r2 : (if a.dx = 1 then a.y else a.ny) = a.y := by rw [e1]; rfl
    have r3 : (if a.dx = 1 then a.ny else a.y) = a.ny := by rw [e1]; rfl
    have r4 : (if a.dy = 1 then a.y else a.ny) = a.y := by rw [e2]; rfl
    rw [r1, r2, r3] at HX
    rw [r1, r4]
    clear r1 r2 r3 r4 ha
    obtain ⟨x, y, dx, dy⟩ := a
    simp only at e1 e2 g1 g2 g3 g4 k1 k2 HX ⊢
    generalize hX : Wk.nx ⟨x, y, dx, dy⟩ = X at *
    generalize hY : Wk.ny ⟨x, y, dx, dy⟩ = Y at *
    clear hX hY
    have q1 : Y = y + 1 := by omega
    have q2 : Y > y ↔ True := by simp only [iff_true]; omega
    have q3 : decide (Y > y) = true := by simp only [q2, decide_true]
    have q4 : decide (y < Y) = true := by rw [← q3]
    have HV : Hid (x * 2 * ht + y - 1 + 1 = x * 2 * ht + y) := hide (by omega)
    obtain ⟨m1, m2⟩ := mul_small2 (a := x) (b := ht) (by omega) (by omega) s3 s4
    have q5 : y < Y := by omega
    clear q1 q2 e1 e2 k1 k2 g5 g6
    obtain ⟨wka_x1, wkb_x1, wkc_x1, wkd_x1⟩ := (Bx.new_ w (w.heap.size) 112 #[.int .i64 x, .int .i64 y, .int .i64 dx, .int .i64 dy] (by simp)).four
    go_enter Try.func172, Try.ntmps172
    go_wp2_with fail
    refine ((HX.out _)).mono ?_
    rintro e w1 ⟨rfl, hb1⟩
    have wk_1 := (Bx.new_ w (w.heap.size) 112 #[.int .i64 x, .int .i64 y, .int .i64 dx, .int .i64 dy] (by simp)).below hb1
    obtain ⟨wka_1, wkb_1, wkc_1, wkd_1⟩ := (wk_1).four
    have z_1 : (w.alloc (.cells #[.int .i64 x, .int .i64 y, .int .i64 dx, .int .i64 dy] 112)).heap.size ≤ w1.heap.size := hb1.size
    simp only [World.size_alloc] at z_1
    have B_1 := ((Below.refl w.heap.size w).alloc (by first | omega | (simp; omega) | simp) (.cells #[.int .i64 x, .int .i64 y, .int .i64 dx, .int .i64 dy] 112)).trans (hb1.mono (by first | omega | (simp; omega) | simp))
    obtain ⟨qa_x2, qb_x2⟩ := (Bx.new_ w1 (w1.heap.size) 110 #[.int .i64 x, .int .i64 y] (by simp)).two
    have c1_1 := (hp.below ((B_1).alloc (by first | omega | (simp; omega) | simp) (.cells #[.int .i64 x, .int .i64 y] 110))).c1
    go_wp2_with fail
    go_quiet (fail)
    rename Nat => n1
    obtain ⟨qa_x3, qb_x3⟩ := ((Bx.new_ w1 (w1.heap.size) 110 #[.int .i64 x, .int .i64 y] (by simp)).drewN n1).two
    go_wp2_with fail
    go_ret
    first | rw [HV.out] | skip
    exact ⟨rfl, (below_drewN' ((B_1).alloc (by first | omega | (simp; omega) | simp) (.cells #[.int .i64 x, .int .i64 y] 110)) n1)⟩
  ·
    have r1 : (if a.dx = 1 then a.x else a.nx) = a.x := by rw [e1]; rfl
    have r2 : (if a.dx = 1 then a.y else a.ny) = a.y := by rw [e1]; rfl
    have r3 : (if a.dx = 1 then a.ny else a.y) = a.ny := by rw [e1]; rfl
    have r4 : (if a.dy = 1 then a.y else a.ny) = a.ny := by rw [e2]; rfl
    rw [r1, r2, r3] at HX
    rw [r1, r4]
    clear r1 r2 r3 r4 ha
    obtain ⟨x, y, dx, dy⟩ := a
    simp only at e1 e2 g1 g2 g3 g4 k1 k2 HX ⊢
    generalize hX : Wk.nx ⟨x, y, dx, dy⟩ = X at *
    generalize hY : Wk.ny ⟨x, y, dx, dy⟩ = Y at *
    clear hX hY
    have q1 : Y = y - 1 := by omega
    have q2 : Y > y ↔ False := by simp only [iff_false]; omega
    have q3 : decide (Y > y) = false := by simp only [q2, decide_false]
    have q4 : decide (y < Y) = false := by rw [← q3]
    have HV : Hid (x * 2 * ht + y - 1 = x * 2 * ht + Y) := hide (by omega)
    obtain ⟨m1, m2⟩ := mul_small2 (a := x) (b := ht) (by omega) (by omega) s3 s4
    have q5 : ¬ y < Y := by omega
    clear q1 q2 e1 e2 k1 k2 g5 g6
    obtain ⟨wka_x1, wkb_x1, wkc_x1, wkd_x1⟩ := (Bx.new_ w (w.heap.size) 112 #[.int .i64 x, .int .i64 y, .int .i64 dx, .int .i64 dy] (by simp)).four
    go_enter Try.func172, Try.ntmps172
    go_wp2_with fail
    refine ((HX.out _)).mono ?_
    rintro e w1 ⟨rfl, hb1⟩
    have wk_1 := (Bx.new_ w (w.heap.size) 112 #[.int .i64 x, .int .i64 y, .int .i64 dx, .int .i64 dy] (by simp)).below hb1
    obtain ⟨wka_1, wkb_1, wkc_1, wkd_1⟩ := (wk_1).four
    have z_1 : (w.alloc (.cells #[.int .i64 x, .int .i64 y, .int .i64 dx, .int .i64 dy] 112)).heap.size ≤ w1.heap.size := hb1.size
    simp only [World.size_alloc] at z_1
    have B_1 := ((Below.refl w.heap.size w).alloc (by first | omega | (simp; omega) | simp) (.cells #[.int .i64 x, .int .i64 y, .int .i64 dx, .int .i64 dy] 112)).trans (hb1.mono (by first | omega | (simp; omega) | simp))
    obtain ⟨qa_x2, qb_x2⟩ := (Bx.new_ w1 (w1.heap.size) 110 #[.int .i64 x, .int .i64 y] (by simp)).two
    have c1_1 := (hp.below ((B_1).alloc (by first | omega | (simp; omega) | simp) (.cells #[.int .i64 x, .int .i64 y] 110))).c1
    go_wp2_with fail
    go_quiet (fail)
    rename Nat => n1
    obtain ⟨qa_x3, qb_x3⟩ := ((Bx.new_ w1 (w1.heap.size) 110 #[.int .i64 x, .int .i64 y] (by simp)).drewN n1).two
    go_wp2_with fail
    go_ret
    first | rw [HV.out] | skip
    exact ⟨rfl, (below_drewN' ((B_1).alloc (by first | omega | (simp; omega) | simp) (.cells #[.int .i64 x, .int .i64 y] 110)) n1)⟩
  ·
    have r1 : (if a.dx = 1 then a.x else a.nx) = a.nx := by rw [e1]; rfl
    have r2 : (if a.dx = 1 then a.y else a.ny) = a.ny := by rw [e1]; rfl
    have r3 : (if a.dx = 1 then a.ny else a.y) = a.y := by rw [e1]; rfl
    have r4 : (if a.dy = 1 then a.y else a.ny) = a.y := by rw [e2]; rfl
    rw [r1, r2, r3] at HX
    rw [r1, r4]
    clear r1 r2 r3 r4 ha
    obtain ⟨x, y, dx, dy⟩ := a
    simp only at e1 e2 g1 g2 g3 g4 k1 k2 HX ⊢
    generalize hX : Wk.nx ⟨x, y, dx, dy⟩ = X at *
    generalize hY : Wk.ny ⟨x, y, dx, dy⟩ = Y at *
    clear hX hY
    have q1 : Y = y + 1 := by omega
    have q2 : y > Y ↔ False := by simp only [iff_false]; omega
    have q3 : decide (y > Y) = false := by simp only [q2, decide_false]
    have q4 : decide (Y < y) = false := by rw [← q3]
    have HV : Hid (X * 2 * ht + Y - 1 = X * 2 * ht + y) := hide (by omega)
    obtain ⟨m1, m2⟩ := mul_small2 (a := X) (b := ht) (by omega) (by omega) s3 s4
    have q5 : ¬ Y < y := by omega
    clear q1 q2 e1 e2 k1 k2 g5 g6
    obtain ⟨wka_x1, wkb_x1, wkc_x1, wkd_x1⟩ := (Bx.new_ w (w.heap.size) 112 #[.int .i64 x, .int .i64 y, .int .i64 dx, .int .i64 dy] (by simp)).four
    go_enter Try.func172, Try.ntmps172
    go_wp2_with fail
    refine ((HX.out _)).mono ?_
    rintro e w1 ⟨rfl, hb1⟩
    have wk_1 := (Bx.new_ w (w.heap.size) 112 #[.int .i64 x, .int .i64 y, .int .i64 dx, .int .i64 dy] (by simp)).below hb1
    obtain ⟨wka_1, wkb_1, wkc_1, wkd_1⟩ := (wk_1).four
    have z_1 : (w.alloc (.cells #[.int .i64 x, .int .i64 y, .int .i64 dx, .int .i64 dy] 112)).heap.size ≤ w1.heap.size := hb1.size
    simp only [World.size_alloc] at z_1
    have B_1 := ((Below.refl w.heap.size w).alloc (by first | omega | (simp; omega) | simp) (.cells #[.int .i64 x, .int .i64 y, .int .i64 dx, .int .i64 dy] 112)).trans (hb1.mono (by first | omega | (simp; omega) | simp))
    obtain ⟨qa_x2, qb_x2⟩ := (Bx.new_ w1 (w1.heap.size) 110 #[.int .i64 X, .int .i64 Y] (by simp)).two
    have c1_1 := (hp.below ((B_1).alloc (by first | omega | (simp; omega) | simp) (.cells #[.int .i64 X, .int .i64 Y] 110))).c1
    go_wp2_with fail
    go_quiet (fail)
    rename Nat => n1
    obtain ⟨qa_x3, qb_x3⟩ := ((Bx.new_ w1 (w1.heap.size) 110 #[.int .i64 X, .int .i64 Y] (by simp)).drewN n1).two
    go_wp2_with fail
    go_ret
    first | rw [HV.out] | skip
    exact ⟨rfl, (below_drewN' ((B_1).alloc (by first | omega | (simp; omega) | simp) (.cells #[.int .i64 X, .int .i64 Y] 110)) n1)⟩
  ·
    have r1 : (if a.dx = 1 then a.x else a.nx) = a.nx := by rw [e1]; rfl
    have r2 : (if a.dx = 1 then a.y else a.ny) = a.ny := by rw [e1]; rfl
    have r3 : (if a.dx = 1 then a.ny else a.y) = a.y := by rw [e1]; rfl
    have r4 : (if a.dy = 1 then a.y else a.ny) = a.ny := by rw [e2]; rfl
    rw [r1, r2, r3] at HX
    rw [r1, r4]
    clear r1 r2 r3 r4 ha
    obtain ⟨x, y, dx, dy⟩ := a
    simp only at e1 e2 g1 g2 g3 g4 k1 k2 HX ⊢
    generalize hX : Wk.nx ⟨x, y, dx, dy⟩ = X at *
    generalize hY : Wk.ny ⟨x, y, dx, dy⟩ = Y at *
    clear hX hY
    have q1 : Y = y - 1 := by omega
    have q2 : y > Y ↔ True := by simp only [iff_true]; omega
    have q3 : decide (y > Y) = true := by simp only [q2, decide_true]
    have q4 : decide (Y < y) = true := by rw [← q3]
    have HV : Hid (X * 2 * ht + Y - 1 + 1 = X * 2 * ht + Y) := hide (by omega)
    obtain ⟨m1, m2⟩ := mul_small2 (a := X) (b := ht) (by omega) (by omega) s3 s4
    have q5 : Y < y := by omega
    clear q1 q2 e1 e2 k1 k2 g5 g6
    obtain ⟨wka_x1, wkb_x1, wkc_x1, wkd_x1⟩ := (Bx.new_ w (w.heap.size) 112 #[.int .i64 x, .int .i64 y, .int .i64 dx, .int .i64 dy] (by simp)).four
    go_enter Try.func172, Try.ntmps172
    go_wp2_with fail
    refine ((HX.out _)).mono ?_
    rintro e w1 ⟨rfl, hb1⟩
    have wk_1 := (Bx.new_ w (w.heap.size) 112 #[.int .i64 x, .int .i64 y, .int .i64 dx, .int .i64 dy] (by simp)).below hb1
    obtain ⟨wka_1, wkb_1, wkc_1, wkd_1⟩ := (wk_1).four
    have z_1 : (w.alloc (.cells #[.int .i64 x, .int .i64 y, .int .i64 dx, .int .i64 dy] 112)).heap.size ≤ w1.heap.size := hb1.size
    simp only [World.size_alloc] at z_1
    have B_1 := ((Below.refl w.heap.size w).alloc (by first | omega | (simp; omega) | simp) (.cells #[.int .i64 x, .int .i64 y, .int .i64 dx, .int .i64 dy] 112)).trans (hb1.mono (by first | omega | (simp; omega) | simp))
    obtain ⟨qa_x2, qb_x2⟩ := (Bx.new_ w1 (w1.heap.size) 110 #[.int .i64 X, .int .i64 Y] (by simp)).two
    have c1_1 := (hp.below ((B_1).alloc (by first | omega | (simp; omega) | simp) (.cells #[.int .i64 X, .int .i64 Y] 110))).c1
    go_wp2_with fail
    go_quiet (fail)
    rename Nat => n1
    obtain ⟨qa_x3, qb_x3⟩ := ((Bx.new_ w1 (w1.heap.size) 110 #[.int .i64 X, .int .i64 Y] (by simp)).drewN n1).two
    go_wp2_with fail
    go_ret
    first | rw [HV.out] | skip
    exact ⟨rfl, (below_drewN' ((B_1).alloc (by first | omega | (simp; omega) | simp) (.cells #[.int .i64 X, .int .i64 Y] 110)) n1)⟩

theorem div_facts {wd ht : Int} (hs : Sz wd ht) {k : Nat} (hk : k < nSeg wd ht) : (0 ≤ (k : Int) / (2 * ht) ∧ (k : Int) / (2 * ht) ≤ 16) ∧ (0 ≤ (k : Int) % (2 * ht) ∧ (k : Int) % (2 * ht) ≤ 15) := by
  have hn := nSeg_int hs
  obtain ⟨s1, s2, s3, s4⟩ := hs
  have h : (k : Int) < 4 * wd * ht := by omega
  clear hn
  rcases eight s3 s4 with rfl | rfl | rfl | rfl | rfl | rfl | rfl | rfl <;> omega


set_option maxHeartbeats 4000000 in
theorem walker_any (wd ht : Int) (A : Option Addr) (c : Nat) (xs : List Int) (k : Nat) (w : World) (hs : Sz wd ht) (hk : k < nSeg wd ht) :
    Calls Try.prog 112 #[.agg #[.int .i64 wd, .int .i64 ht, .slice A xs.length c], .int .i64 (k : Int)] w (RetV w (.agg #[.int .i64 ((walkK ht k).x), .int .i64 ((walkK ht k).y), .int .i64 ((walkK ht k).dx), .int .i64 ((walkK ht k).dy)])) := by
  obtain ⟨⟨d1, d2⟩, ⟨d3, d4⟩⟩ := div_facts hs hk
  have hkn : (k : Int) ≤ 256 := by have := nSeg_int hs; omega
  obtain ⟨s1, s2, s3, s4⟩ := hs
  have t1 : Int.tdiv (k : Int) (2 * ht) = (k : Int) / (2 * ht) := Int.tdiv_eq_ediv_of_nonneg (by omega)
  have t2 : Int.tmod (k : Int) (2 * ht) = (k : Int) % (2 * ht) := Int.tmod_eq_emod_of_nonneg (by omega)
  have n1 : ((2 * ht) == 0) = false := eqf (by omega)
  have n2 : ¬ (2 * ht) = 0 := by omega
  unfold walkK
  generalize (k : Int) / (2 * ht) = xx at *
  generalize (k : Int) % (2 * ht) = rr at *
  have t3 : Int.tmod xx 2 = xx % 2 := Int.tmod_eq_emod_of_nonneg (by omega)
  have t4 : Int.tmod rr 2 = rr % 2 := Int.tmod_eq_emod_of_nonneg (by omega)
  have t5 : Int.tdiv rr 2 = rr / 2 := Int.tdiv_eq_ediv_of_nonneg (by omega)
  have t6 : Int.tdiv (rr + 1) 2 = (rr + 1) / 2 := Int.tdiv_eq_ediv_of_nonneg (by omega)
  have t7 : Int.tmod (xx + rr) 2 = (xx + rr) % 2 := Int.tmod_eq_emod_of_nonneg (by omega)
  have h4 : (xx % 2 = 0 ∨ xx % 2 = 1) ∧ (rr % 2 = 0 ∨ rr % 2 = 1) := by omega
  obtain ⟨p1, p2⟩ := h4
  rcases p1 with p1 | p1 <;> rcases p2 with p2 | p2
  ·
    have ho : (xx + rr) % 2 = 0 := by omega
    rw [if_neg (by omega)]
    rw [ho] at t7
    rw [p1] at t3
    rw [p2] at t4
    have HE : Hid ((rr + 1) = rr + 1) := hide (by omega)
    generalize hh : rr / 2 = h at *
    generalize hh2 : (rr + 1) / 2 = h2 at *
    have g1 : 0 ≤ h ∧ h ≤ 8 := by omega
    have g2 : 0 ≤ h2 ∧ h2 ≤ 8 := by omega
    clear hh hh2 p1 p2 ho
    show Calls Try.prog 112 #[.agg #[.int .i64 wd, .int .i64 ht, .slice A xs.length c], .int .i64 (k : Int)] w (RetV w (.agg #[.int .i64 xx, .int .i64 (rr + 1), .int .i64 1, .int .i64 (-1)]))
    rw [← HE.out]
    obtain ⟨pa_x1, pb_x1, pc_x1⟩ := ((Bx.new_ w (w.heap.size) 36 #[.int .i64 wd, .int .i64 ht, .slice A xs.length c] (by simp)).alloc (.cells #[.int .i64 0, .int .i64 0, .int .i64 0, .int .i64 0] 112)).three
    obtain ⟨ra_x1, rb_x1, rc_x1, rd_x1⟩ := (Bx.new_ (w.alloc (.cells #[.int .i64 wd, .int .i64 ht, .slice A xs.length c] 36)) (w.heap.size + 1) 112 #[.int .i64 0, .int .i64 0, .int .i64 0, .int .i64 0] (by simp)).four
    have rf0_x1 := (Bx.new_ (w.alloc (.cells #[.int .i64 wd, .int .i64 ht, .slice A xs.length c] 36)) (w.heap.size + 1) 112 #[.int .i64 0, .int .i64 0, .int .i64 0, .int .i64 0] (by simp)).frozen 0
    have rf1_x1 := (Bx.new_ (w.alloc (.cells #[.int .i64 wd, .int .i64 ht, .slice A xs.length c] 36)) (w.heap.size + 1) 112 #[.int .i64 0, .int .i64 0, .int .i64 0, .int .i64 0] (by simp)).frozen 1
    have rf2_x1 := (Bx.new_ (w.alloc (.cells #[.int .i64 wd, .int .i64 ht, .slice A xs.length c] 36)) (w.heap.size + 1) 112 #[.int .i64 0, .int .i64 0, .int .i64 0, .int .i64 0] (by simp)).frozen 2
    have rf3_x1 := (Bx.new_ (w.alloc (.cells #[.int .i64 wd, .int .i64 ht, .slice A xs.length c] 36)) (w.heap.size + 1) 112 #[.int .i64 0, .int .i64 0, .int .i64 0, .int .i64 0] (by simp)).frozen 3
    go_enter Try.func112, Try.ntmps112
    go_wp2_with fail
    go_quiet (fail)
    rename Nat => nn
    obtain ⟨ra_x2, rb_x2, rc_x2, rd_x2⟩ := ((Bx.new_ (w.alloc (.cells #[.int .i64 wd, .int .i64 ht, .slice A xs.length c] 36)) (w.heap.size + 1) 112 #[.int .i64 0, .int .i64 0, .int .i64 0, .int .i64 0] (by simp)).drewN nn).four
    have rf0_x2 := ((Bx.new_ (w.alloc (.cells #[.int .i64 wd, .int .i64 ht, .slice A xs.length c] 36)) (w.heap.size + 1) 112 #[.int .i64 0, .int .i64 0, .int .i64 0, .int .i64 0] (by simp)).drewN nn).frozen 0
    have rf1_x2 := ((Bx.new_ (w.alloc (.cells #[.int .i64 wd, .int .i64 ht, .slice A xs.length c] 36)) (w.heap.size + 1) 112 #[.int .i64 0, .int .i64 0, .int .i64 0, .int .i64 0] (by simp)).drewN nn).frozen 1
    have rf2_x2 := ((Bx.new_ (w.alloc (.cells #[.int .i64 wd, .int .i64 ht, .slice A xs.length c] 36)) (w.heap.size + 1) 112 #[.int .i64 0, .int .i64 0, .int .i64 0, .int .i64 0] (by simp)).drewN nn).frozen 2
    have rf3_x2 := ((Bx.new_ (w.alloc (.cells #[.int .i64 wd, .int .i64 ht, .slice A xs.length c] 36)) (w.heap.size + 1) 112 #[.int .i64 0, .int .i64 0, .int .i64 0, .int .i64 0] (by simp)).drewN nn).frozen 3
    obtain ⟨pa_x2, pb_x2, pc_x2⟩ := (((Bx.new_ w (w.heap.size) 36 #[.int .i64 wd, .int .i64 ht, .slice A xs.length c] (by simp)).alloc (.cells #[.int .i64 0, .int .i64 0, .int .i64 0, .int .i64 0] 112)).drewN nn).three
    obtain ⟨ra_x3, rb_x3, rc_x3, rd_x3⟩ := (((Bx.new_ (w.alloc (.cells #[.int .i64 wd, .int .i64 ht, .slice A xs.length c] 36)) (w.heap.size + 1) 112 #[.int .i64 0, .int .i64 0, .int .i64 0, .int .i64 0] (by simp)).drewN nn).set_ 0 (.int .i64 (xx))).four
    have rf0_x3 := (((Bx.new_ (w.alloc (.cells #[.int .i64 wd, .int .i64 ht, .slice A xs.length c] 36)) (w.heap.size + 1) 112 #[.int .i64 0, .int .i64 0, .int .i64 0, .int .i64 0] (by simp)).drewN nn).set_ 0 (.int .i64 (xx))).frozen 0
    have rf1_x3 := (((Bx.new_ (w.alloc (.cells #[.int .i64 wd, .int .i64 ht, .slice A xs.length c] 36)) (w.heap.size + 1) 112 #[.int .i64 0, .int .i64 0, .int .i64 0, .int .i64 0] (by simp)).drewN nn).set_ 0 (.int .i64 (xx))).frozen 1
    have rf2_x3 := (((Bx.new_ (w.alloc (.cells #[.int .i64 wd, .int .i64 ht, .slice A xs.length c] 36)) (w.heap.size + 1) 112 #[.int .i64 0, .int .i64 0, .int .i64 0, .int .i64 0] (by simp)).drewN nn).set_ 0 (.int .i64 (xx))).frozen 2
    have rf3_x3 := (((Bx.new_ (w.alloc (.cells #[.int .i64 wd, .int .i64 ht, .slice A xs.length c] 36)) (w.heap.size + 1) 112 #[.int .i64 0, .int .i64 0, .int .i64 0, .int .i64 0] (by simp)).drewN nn).set_ 0 (.int .i64 (xx))).frozen 3
    obtain ⟨ra_x4, rb_x4, rc_x4, rd_x4⟩ := ((((Bx.new_ (w.alloc (.cells #[.int .i64 wd, .int .i64 ht, .slice A xs.length c] 36)) (w.heap.size + 1) 112 #[.int .i64 0, .int .i64 0, .int .i64 0, .int .i64 0] (by simp)).drewN nn).set_ 0 (.int .i64 (xx))).set_ 1 (.int .i64 (rr + 1))).four
    have rf0_x4 := ((((Bx.new_ (w.alloc (.cells #[.int .i64 wd, .int .i64 ht, .slice A xs.length c] 36)) (w.heap.size + 1) 112 #[.int .i64 0, .int .i64 0, .int .i64 0, .int .i64 0] (by simp)).drewN nn).set_ 0 (.int .i64 (xx))).set_ 1 (.int .i64 (rr + 1))).frozen 0
    have rf1_x4 := ((((Bx.new_ (w.alloc (.cells #[.int .i64 wd, .int .i64 ht, .slice A xs.length c] 36)) (w.heap.size + 1) 112 #[.int .i64 0, .int .i64 0, .int .i64 0, .int .i64 0] (by simp)).drewN nn).set_ 0 (.int .i64 (xx))).set_ 1 (.int .i64 (rr + 1))).frozen 1
    have rf2_x4 := ((((Bx.new_ (w.alloc (.cells #[.int .i64 wd, .int .i64 ht, .slice A xs.length c] 36)) (w.heap.size + 1) 112 #[.int .i64 0, .int .i64 0, .int .i64 0, .int .i64 0] (by simp)).drewN nn).set_ 0 (.int .i64 (xx))).set_ 1 (.int .i64 (rr + 1))).frozen 2
    have rf3_x4 := ((((Bx.new_ (w.alloc (.cells #[.int .i64 wd, .int .i64 ht, .slice A xs.length c] 36)) (w.heap.size + 1) 112 #[.int .i64 0, .int .i64 0, .int .i64 0, .int .i64 0] (by simp)).drewN nn).set_ 0 (.int .i64 (xx))).set_ 1 (.int .i64 (rr + 1))).frozen 3
    obtain ⟨ra_x5, rb_x5, rc_x5, rd_x5⟩ := (((((Bx.new_ (w.alloc (.cells #[.int .i64 wd, .int .i64 ht, .slice A xs.length c] 36)) (w.heap.size + 1) 112 #[.int .i64 0, .int .i64 0, .int .i64 0, .int .i64 0] (by simp)).drewN nn).set_ 0 (.int .i64 (xx))).set_ 1 (.int .i64 (rr + 1))).set_ 2 (.int .i64 (1))).four
    have rf0_x5 := (((((Bx.new_ (w.alloc (.cells #[.int .i64 wd, .int .i64 ht, .slice A xs.length c] 36)) (w.heap.size + 1) 112 #[.int .i64 0, .int .i64 0, .int .i64 0, .int .i64 0] (by simp)).drewN nn).set_ 0 (.int .i64 (xx))).set_ 1 (.int .i64 (rr + 1))).set_ 2 (.int .i64 (1))).frozen 0
    have rf1_x5 := (((((Bx.new_ (w.alloc (.cells #[.int .i64 wd, .int .i64 ht, .slice A xs.length c] 36)) (w.heap.size + 1) 112 #[.int .i64 0, .int .i64 0, .int .i64 0, .int .i64 0] (by simp)).drewN nn).set_ 0 (.int .i64 (xx))).set_ 1 (.int .i64 (rr + 1))).set_ 2 (.int .i64 (1))).frozen 1
    have rf2_x5 := (((((Bx.new_ (w.alloc (.cells #[.int .i64 wd, .int .i64 ht, .slice A xs.length c] 36)) (w.heap.size + 1) 112 #[.int .i64 0, .int .i64 0, .int .i64 0, .int .i64 0] (by simp)).drewN nn).set_ 0 (.int .i64 (xx))).set_ 1 (.int .i64 (rr + 1))).set_ 2 (.int .i64 (1))).frozen 2
    have rf3_x5 := (((((Bx.new_ (w.alloc (.cells #[.int .i64 wd, .int .i64 ht, .slice A xs.length c] 36)) (w.heap.size + 1) 112 #[.int .i64 0, .int .i64 0, .int .i64 0, .int .i64 0] (by simp)).drewN nn).set_ 0 (.int .i64 (xx))).set_ 1 (.int .i64 (rr + 1))).set_ 2 (.int .i64 (1))).frozen 3
    obtain ⟨ra_x6, rb_x6, rc_x6, rd_x6⟩ := ((((((Bx.new_ (w.alloc (.cells #[.int .i64 wd, .int .i64 ht, .slice A xs.length c] 36)) (w.heap.size + 1) 112 #[.int .i64 0, .int .i64 0, .int .i64 0, .int .i64 0] (by simp)).drewN nn).set_ 0 (.int .i64 (xx))).set_ 1 (.int .i64 (rr + 1))).set_ 2 (.int .i64 (1))).set_ 3 (.int .i64 (-1))).four
    have rf0_x6 := ((((((Bx.new_ (w.alloc (.cells #[.int .i64 wd, .int .i64 ht, .slice A xs.length c] 36)) (w.heap.size + 1) 112 #[.int .i64 0, .int .i64 0, .int .i64 0, .int .i64 0] (by simp)).drewN nn).set_ 0 (.int .i64 (xx))).set_ 1 (.int .i64 (rr + 1))).set_ 2 (.int .i64 (1))).set_ 3 (.int .i64 (-1))).frozen 0
    have rf1_x6 := ((((((Bx.new_ (w.alloc (.cells #[.int .i64 wd, .int .i64 ht, .slice A xs.length c] 36)) (w.heap.size + 1) 112 #[.int .i64 0, .int .i64 0, .int .i64 0, .int .i64 0] (by simp)).drewN nn).set_ 0 (.int .i64 (xx))).set_ 1 (.int .i64 (rr + 1))).set_ 2 (.int .i64 (1))).set_ 3 (.int .i64 (-1))).frozen 1
    have rf2_x6 := ((((((Bx.new_ (w.alloc (.cells #[.int .i64 wd, .int .i64 ht, .slice A xs.length c] 36)) (w.heap.size + 1) 112 #[.int .i64 0, .int .i64 0, .int .i64 0, .int .i64 0] (by simp)).drewN nn).set_ 0 (.int .i64 (xx))).set_ 1 (.int .i64 (rr + 1))).set_ 2 (.int .i64 (1))).set_ 3 (.int .i64 (-1))).frozen 2
    have rf3_x6 := ((((((Bx.new_ (w.alloc (.cells #[.int .i64 wd, .int .i64 ht, .slice A xs.length c] 36)) (w.heap.size + 1) 112 #[.int .i64 0, .int .i64 0, .int .i64 0, .int .i64 0] (by simp)).drewN nn).set_ 0 (.int .i64 (xx))).set_ 1 (.int .i64 (rr + 1))).set_ 2 (.int .i64 (1))).set_ 3 (.int .i64 (-1))).frozen 3
    go_wp2_with fail
    obtain ⟨ra_z, rb_z, rc_z, rd_z⟩ := ((((((Bx.new_ (w.alloc (.cells #[.int .i64 wd, .int .i64 ht, .slice A xs.length c] 36)) (w.heap.size + 1) 112 #[.int .i64 0, .int .i64 0, .int .i64 0, .int .i64 0] (by simp)).drewN nn).set_ 0 (.int .i64 (xx))).set_ 1 (.int .i64 (rr + 1))).set_ 2 (.int .i64 (1))).set_ 3 (.int .i64 (-1))).four
    have rf0_z := ((((((Bx.new_ (w.alloc (.cells #[.int .i64 wd, .int .i64 ht, .slice A xs.length c] 36)) (w.heap.size + 1) 112 #[.int .i64 0, .int .i64 0, .int .i64 0, .int .i64 0] (by simp)).drewN nn).set_ 0 (.int .i64 (xx))).set_ 1 (.int .i64 (rr + 1))).set_ 2 (.int .i64 (1))).set_ 3 (.int .i64 (-1))).frozen 0
    have rf1_z := ((((((Bx.new_ (w.alloc (.cells #[.int .i64 wd, .int .i64 ht, .slice A xs.length c] 36)) (w.heap.size + 1) 112 #[.int .i64 0, .int .i64 0, .int .i64 0, .int .i64 0] (by simp)).drewN nn).set_ 0 (.int .i64 (xx))).set_ 1 (.int .i64 (rr + 1))).set_ 2 (.int .i64 (1))).set_ 3 (.int .i64 (-1))).frozen 1
    have rf2_z := ((((((Bx.new_ (w.alloc (.cells #[.int .i64 wd, .int .i64 ht, .slice A xs.length c] 36)) (w.heap.size + 1) 112 #[.int .i64 0, .int .i64 0, .int .i64 0, .int .i64 0] (by simp)).drewN nn).set_ 0 (.int .i64 (xx))).set_ 1 (.int .i64 (rr + 1))).set_ 2 (.int .i64 (1))).set_ 3 (.int .i64 (-1))).frozen 2
    have rf3_z := ((((((Bx.new_ (w.alloc (.cells #[.int .i64 wd, .int .i64 ht, .slice A xs.length c] 36)) (w.heap.size + 1) 112 #[.int .i64 0, .int .i64 0, .int .i64 0, .int .i64 0] (by simp)).drewN nn).set_ 0 (.int .i64 (xx))).set_ 1 (.int .i64 (rr + 1))).set_ 2 (.int .i64 (1))).set_ 3 (.int .i64 (-1))).frozen 3
    refine bodyPost_ret (v := .agg #[.int .i64 xx, .int .i64 (rr + 1), .int .i64 1, .int .i64 (-1)]) (by simp [results, Try.results112, go_sem, ra_z, rb_z, rc_z, rd_z]) rfl ?_
    exact ⟨rfl, (((((below_drewN' (((Below.refl w.heap.size w).alloc (by first | omega | (simp; omega) | simp) (.cells #[.int .i64 wd, .int .i64 ht, .slice A xs.length c] 36)).alloc (by first | omega | (simp; omega) | simp) (.cells #[.int .i64 0, .int .i64 0, .int .i64 0, .int .i64 0] 112)) nn).setCell (p := ⟨(w.heap.size + 1), 0, none⟩) (by first | omega | (simp; omega) | simp) (.int .i64 (xx))).setCell (p := ⟨(w.heap.size + 1), 1, none⟩) (by first | omega | (simp; omega) | simp) (.int .i64 (rr + 1))).setCell (p := ⟨(w.heap.size + 1), 2, none⟩) (by first | omega | (simp; omega) | simp) (.int .i64 (1))).setCell (p := ⟨(w.heap.size + 1), 3, none⟩) (by first | omega | (simp; omega) | simp) (.int .i64 (-1)))⟩
  ·
    have ho : (xx + rr) % 2 = 1 := by omega
    rw [if_pos ho]
    rw [ho] at t7
    rw [p1] at t3
    rw [p2] at t4
    have HE : Hid ((rr) = rr) := hide (by omega)
    generalize hh : rr / 2 = h at *
    generalize hh2 : (rr + 1) / 2 = h2 at *
    have g1 : 0 ≤ h ∧ h ≤ 8 := by omega
    have g2 : 0 ≤ h2 ∧ h2 ≤ 8 := by omega
    clear hh hh2 p1 p2 ho
    show Calls Try.prog 112 #[.agg #[.int .i64 wd, .int .i64 ht, .slice A xs.length c], .int .i64 (k : Int)] w (RetV w (.agg #[.int .i64 xx, .int .i64 (rr), .int .i64 1, .int .i64 (1)]))
    rw [← HE.out]
    obtain ⟨pa_x1, pb_x1, pc_x1⟩ := ((Bx.new_ w (w.heap.size) 36 #[.int .i64 wd, .int .i64 ht, .slice A xs.length c] (by simp)).alloc (.cells #[.int .i64 0, .int .i64 0, .int .i64 0, .int .i64 0] 112)).three
    obtain ⟨ra_x1, rb_x1, rc_x1, rd_x1⟩ := (Bx.new_ (w.alloc (.cells #[.int .i64 wd, .int .i64 ht, .slice A xs.length c] 36)) (w.heap.size + 1) 112 #[.int .i64 0, .int .i64 0, .int .i64 0, .int .i64 0] (by simp)).four
    have rf0_x1 := (Bx.new_ (w.alloc (.cells #[.int .i64 wd, .int .i64 ht, .slice A xs.length c] 36)) (w.heap.size + 1) 112 #[.int .i64 0, .int .i64 0, .int .i64 0, .int .i64 0] (by simp)).frozen 0
    have rf1_x1 := (Bx.new_ (w.alloc (.cells #[.int .i64 wd, .int .i64 ht, .slice A xs.length c] 36)) (w.heap.size + 1) 112 #[.int .i64 0, .int .i64 0, .int .i64 0, .int .i64 0] (by simp)).frozen 1
    have rf2_x1 := (Bx.new_ (w.alloc (.cells #[.int .i64 wd, .int .i64 ht, .slice A xs.length c] 36)) (w.heap.size + 1) 112 #[.int .i64 0, .int .i64 0, .int .i64 0, .int .i64 0] (by simp)).frozen 2
    have rf3_x1 := (Bx.new_ (w.alloc (.cells #[.int .i64 wd, .int .i64 ht, .slice A xs.length c] 36)) (w.heap.size + 1) 112 #[.int .i64 0, .int .i64 0, .int .i64 0, .int .i64 0] (by simp)).frozen 3
    go_enter Try.func112, Try.ntmps112
    go_wp2_with fail
    go_quiet (fail)
    rename Nat => nn
    obtain ⟨ra_x2, rb_x2, rc_x2, rd_x2⟩ := ((Bx.new_ (w.alloc (.cells #[.int .i64 wd, .int .i64 ht, .slice A xs.length c] 36)) (w.heap.size + 1) 112 #[.int .i64 0, .int .i64 0, .int .i64 0, .int .i64 0] (by simp)).drewN nn).four
    have rf0_x2 := ((Bx.new_ (w.alloc (.cells #[.int .i64 wd, .int .i64 ht, .slice A xs.length c] 36)) (w.heap.size + 1) 112 #[.int .i64 0, .int .i64 0, .int .i64 0, .int .i64 0] (by simp)).drewN nn).frozen 0
    have rf1_x2 := ((Bx.new_ (w.alloc (.cells #[.int .i64 wd, .int .i64 ht, .slice A xs.length c] 36)) (w.heap.size + 1) 112 #[.int .i64 0, .int .i64 0, .int .i64 0, .int .i64 0] (by simp)).drewN nn).frozen 1
    have rf2_x2 := ((Bx.new_ (w.alloc (.cells #[.int .i64 wd, .int .i64 ht, .slice A xs.length c] 36)) (w.heap.size + 1) 112 #[.int .i64 0, .int .i64 0, .int .i64 0, .int .i64 0] (by simp)).drewN nn).frozen 2
    have rf3_x2 := ((Bx.new_ (w.alloc (.cells #[.int .i64 wd, .int .i64 ht, .slice A xs.length c] 36)) (w.heap.size + 1) 112 #[.int .i64 0, .int .i64 0, .int .i64 0, .int .i64 0] (by simp)).drewN nn).frozen 3
    obtain ⟨pa_x2, pb_x2, pc_x2⟩ := (((Bx.new_ w (w.heap.size) 36 #[.int .i64 wd, .int .i64 ht, .slice A xs.length c] (by simp)).alloc (.cells #[.int .i64 0, .int .i64 0, .int .i64 0, .int .i64 0] 112)).drewN nn).three
    obtain ⟨ra_x3, rb_x3, rc_x3, rd_x3⟩ := (((Bx.new_ (w.alloc (.cells #[.int .i64 wd, .int .i64 ht, .slice A xs.length c] 36)) (w.heap.size + 1) 112 #[.int .i64 0, .int .i64 0, .int .i64 0, .int .i64 0] (by simp)).drewN nn).set_ 0 (.int .i64 (xx))).four
    have rf0_x3 := (((Bx.new_ (w.alloc (.cells #[.int .i64 wd, .int .i64 ht, .slice A xs.length c] 36)) (w.heap.size + 1) 112 #[.int .i64 0, .int .i64 0, .int .i64 0, .int .i64 0] (by simp)).drewN nn).set_ 0 (.int .i64 (xx))).frozen 0
    have rf1_x3 := (((Bx.new_ (w.alloc (.cells #[.int .i64 wd, .int .i64 ht, .slice A xs.length c] 36)) (w.heap.size + 1) 112 #[.int .i64 0, .int .i64 0, .int .i64 0, .int .i64 0] (by simp)).drewN nn).set_ 0 (.int .i64 (xx))).frozen 1
    have rf2_x3 := (((Bx.new_ (w.alloc (.cells #[.int .i64 wd, .int .i64 ht, .slice A xs.length c] 36)) (w.heap.size + 1) 112 #[.int .i64 0, .int .i64 0, .int .i64 0, .int .i64 0] (by simp)).drewN nn).set_ 0 (.int .i64 (xx))).frozen 2
    have rf3_x3 := (((Bx.new_ (w.alloc (.cells #[.int .i64 wd, .int .i64 ht, .slice A xs.length c] 36)) (w.heap.size + 1) 112 #[.int .i64 0, .int .i64 0, .int .i64 0, .int .i64 0] (by simp)).drewN nn).set_ 0 (.int .i64 (xx))).frozen 3
    obtain ⟨ra_x4, rb_x4, rc_x4, rd_x4⟩ := ((((Bx.new_ (w.alloc (.cells #[.int .i64 wd, .int .i64 ht, .slice A xs.length c] 36)) (w.heap.size + 1) 112 #[.int .i64 0, .int .i64 0, .int .i64 0, .int .i64 0] (by simp)).drewN nn).set_ 0 (.int .i64 (xx))).set_ 1 (.int .i64 (rr))).four
    have rf0_x4 := ((((Bx.new_ (w.alloc (.cells #[.int .i64 wd, .int .i64 ht, .slice A xs.length c] 36)) (w.heap.size + 1) 112 #[.int .i64 0, .int .i64 0, .int .i64 0, .int .i64 0] (by simp)).drewN nn).set_ 0 (.int .i64 (xx))).set_ 1 (.int .i64 (rr))).frozen 0
    have rf1_x4 := ((((Bx.new_ (w.alloc (.cells #[.int .i64 wd, .int .i64 ht, .slice A xs.length c] 36)) (w.heap.size + 1) 112 #[.int .i64 0, .int .i64 0, .int .i64 0, .int .i64 0] (by simp)).drewN nn).set_ 0 (.int .i64 (xx))).set_ 1 (.int .i64 (rr))).frozen 1
    have rf2_x4 := ((((Bx.new_ (w.alloc (.cells #[.int .i64 wd, .int .i64 ht, .slice A xs.length c] 36)) (w.heap.size + 1) 112 #[.int .i64 0, .int .i64 0, .int .i64 0, .int .i64 0] (by simp)).drewN nn).set_ 0 (.int .i64 (xx))).set_ 1 (.int .i64 (rr))).frozen 2
    have rf3_x4 := ((((Bx.new_ (w.alloc (.cells #[.int .i64 wd, .int .i64 ht, .slice A xs.length c] 36)) (w.heap.size + 1) 112 #[.int .i64 0, .int .i64 0, .int .i64 0, .int .i64 0] (by simp)).drewN nn).set_ 0 (.int .i64 (xx))).set_ 1 (.int .i64 (rr))).frozen 3
    obtain ⟨ra_x5, rb_x5, rc_x5, rd_x5⟩ := (((((Bx.new_ (w.alloc (.cells #[.int .i64 wd, .int .i64 ht, .slice A xs.length c] 36)) (w.heap.size + 1) 112 #[.int .i64 0, .int .i64 0, .int .i64 0, .int .i64 0] (by simp)).drewN nn).set_ 0 (.int .i64 (xx))).set_ 1 (.int .i64 (rr))).set_ 2 (.int .i64 (1))).four
    have rf0_x5 := (((((Bx.new_ (w.alloc (.cells #[.int .i64 wd, .int .i64 ht, .slice A xs.length c] 36)) (w.heap.size + 1) 112 #[.int .i64 0, .int .i64 0, .int .i64 0, .int .i64 0] (by simp)).drewN nn).set_ 0 (.int .i64 (xx))).set_ 1 (.int .i64 (rr))).set_ 2 (.int .i64 (1))).frozen 0
    have rf1_x5 := (((((Bx.new_ (w.alloc (.cells #[.int .i64 wd, .int .i64 ht, .slice A xs.length c] 36)) (w.heap.size + 1) 112 #[.int .i64 0, .int .i64 0, .int .i64 0, .int .i64 0] (by simp)).drewN nn).set_ 0 (.int .i64 (xx))).set_ 1 (.int .i64 (rr))).set_ 2 (.int .i64 (1))).frozen 1
    have rf2_x5 := (((((Bx.new_ (w.alloc (.cells #[.int .i64 wd, .int .i64 ht, .slice A xs.length c] 36)) (w.heap.size + 1) 112 #[.int .i64 0, .int .i64 0, .int .i64 0, .int .i64 0] (by simp)).drewN nn).set_ 0 (.int .i64 (xx))).set_ 1 (.int .i64 (rr))).set_ 2 (.int .i64 (1))).frozen 2
    have rf3_x5 := (((((Bx.new_ (w.alloc (.cells #[.int .i64 wd, .int .i64 ht, .slice A xs.length c] 36)) (w.heap.size + 1) 112 #[.int .i64 0, .int .i64 0, .int .i64 0, .int .i64 0] (by simp)).drewN nn).set_ 0 (.int .i64 (xx))).set_ 1 (.int .i64 (rr))).set_ 2 (.int .i64 (1))).frozen 3
    obtain ⟨ra_x6, rb_x6, rc_x6, rd_x6⟩ := ((((((Bx.new_ (w.alloc (.cells #[.int .i64 wd, .int .i64 ht, .slice A xs.length c] 36)) (w.heap.size + 1) 112 #[.int .i64 0, .int .i64 0, .int .i64 0, .int .i64 0] (by simp)).drewN nn).set_ 0 (.int .i64 (xx))).set_ 1 (.int .i64 (rr))).set_ 2 (.int .i64 (1))).set_ 3 (.int .i64 (1))).four
    have rf0_x6 := ((((((Bx.new_ (w.alloc (.cells #[.int .i64 wd, .int .i64 ht, .slice A xs.length c] 36)) (w.heap.size + 1) 112 #[.int .i64 0, .int .i64 0, .int .i64 0, .int .i64 0] (by simp)).drewN nn).set_ 0 (.int .i64 (xx))).set_ 1 (.int .i64 (rr))).set_ 2 (.int .i64 (1))).set_ 3 (.int .i64 (1))).frozen 0
    have rf1_x6 := ((((((Bx.new_ (w.alloc (.cells #[.int .i64 wd, .int .i64 ht, .slice A xs.length c] 36)) (w.heap.size + 1) 112 #[.int .i64 0, .int .i64 0, .int .i64 0, .int .i64 0] (by simp)).drewN nn).set_ 0 (.int .i64 (xx))).set_ 1 (.int .i64 (rr))).set_ 2 (.int .i64 (1))).set_ 3 (.int .i64 (1))).frozen 1
    have rf2_x6 := ((((((Bx.new_ (w.alloc (.cells #[.int .i64 wd, .int .i64 ht, .slice A xs.length c] 36)) (w.heap.size + 1) 112 #[.int .i64 0, .int .i64 0, .int .i64 0, .int .i64 0] (by simp)).drewN nn).set_ 0 (.int .i64 (xx))).set_ 1 (.int .i64 (rr))).set_ 2 (.int .i64 (1))).set_ 3 (.int .i64 (1))).frozen 2
    have rf3_x6 := ((((((Bx.new_ (w.alloc (.cells #[.int .i64 wd, .int .i64 ht, .slice A xs.length c] 36)) (w.heap.size + 1) 112 #[.int .i64 0, .int .i64 0, .int .i64 0, .int .i64 0] (by simp)).drewN nn).set_ 0 (.int .i64 (xx))).set_ 1 (.int .i64 (rr))).set_ 2 (.int .i64 (1))).set_ 3 (.int .i64 (1))).frozen 3
    go_wp2_with fail
    obtain ⟨ra_z, rb_z, rc_z, rd_z⟩ := ((((((Bx.new_ (w.alloc (.cells #[.int .i64 wd, .int .i64 ht, .slice A xs.length c] 36)) (w.heap.size + 1) 112 #[.int .i64 0, .int .i64 0, .int .i64 0, .int .i64 0] (by simp)).drewN nn).set_ 0 (.int .i64 (xx))).set_ 1 (.int .i64 (rr))).set_ 2 (.int .i64 (1))).set_ 3 (.int .i64 (1))).four
    have rf0_z := ((((((Bx.new_ (w.alloc (.cells #[.int .i64 wd, .int .i64 ht, .slice A xs.length c] 36)) (w.heap.size + 1) 112 #[.int .i64 0, .int .i64 0, .int .i64 0, .int .i64 0] (by simp)).drewN nn).set_ 0 (.int .i64 (xx))).set_ 1 (.int .i64 (rr))).set_ 2 (.int .i64 (1))).set_ 3 (.int .i64 (1))).frozen 0
    have rf1_z := ((((((Bx.new_ (w.alloc (.cells #[.int .i64 wd, .int .i64 ht, .slice A xs.length c] 36)) (w.heap.size + 1) 112 #[.int .i64 0, .int .i64 0, .int .i64 0, .int .i64 0] (by simp)).drewN nn).set_ 0 (.int .i64 (xx))).set_ 1 (.int .i64 (rr))).set_ 2 (.int .i64 (1))).set_ 3 (.int .i64 (1))).frozen 1
    have rf2_z := ((((((Bx.new_ (w.alloc (.cells #[.int .i64 wd, .int .i64 ht, .slice A xs.length c] 36)) (w.heap.size + 1) 112 #[.int .i64 0, .int .i64 0, .int .i64 0, .int .i64 0] (by simp)).drewN nn).set_ 0 (.int .i64 (xx))).set_ 1 (.int .i64 (rr))).set_ 2 (.int .i64 (1))).set_ 3 (.int .i64 (1))).frozen 2
    have rf3_z := ((((((Bx.new_ (w.alloc (.cells #[.int .i64 wd, .int .i64 ht, .slice A xs.length c] 36)) (w.heap.size + 1) 112 #[.int .i64 0, .int .i64 0, .int .i64 0, .int .i64 0] (by simp)).drewN nn).set_ 0 (.int .i64 (xx))).set_ 1 (.int .i64 (rr))).set_ 2 (.int .i64 (1))).set_ 3 (.int .i64 (1))).frozen 3
    refine bodyPost_ret (v := .agg #[.int .i64 xx, .int .i64 (rr), .int .i64 1, .int .i64 (1)]) (by simp [results, Try.results112, go_sem, ra_z, rb_z, rc_z, rd_z]) rfl ?_
    exact ⟨rfl, (((((below_drewN' (((Below.refl w.heap.size w).alloc (by first | omega | (simp; omega) | simp) (.cells #[.int .i64 wd, .int .i64 ht, .slice A xs.length c] 36)).alloc (by first | omega | (simp; omega) | simp) (.cells #[.int .i64 0, .int .i64 0, .int .i64 0, .int .i64 0] 112)) nn).setCell (p := ⟨(w.heap.size + 1), 0, none⟩) (by first | omega | (simp; omega) | simp) (.int .i64 (xx))).setCell (p := ⟨(w.heap.size + 1), 1, none⟩) (by first | omega | (simp; omega) | simp) (.int .i64 (rr))).setCell (p := ⟨(w.heap.size + 1), 2, none⟩) (by first | omega | (simp; omega) | simp) (.int .i64 (1))).setCell (p := ⟨(w.heap.size + 1), 3, none⟩) (by first | omega | (simp; omega) | simp) (.int .i64 (1)))⟩
  ·
    have ho : (xx + rr) % 2 = 1 := by omega
    rw [if_pos ho]
    rw [ho] at t7
    rw [p1] at t3
    rw [p2] at t4
    have HE : Hid ((rr) = rr) := hide (by omega)
    generalize hh : rr / 2 = h at *
    generalize hh2 : (rr + 1) / 2 = h2 at *
    have g1 : 0 ≤ h ∧ h ≤ 8 := by omega
    have g2 : 0 ≤ h2 ∧ h2 ≤ 8 := by omega
    clear hh hh2 p1 p2 ho
    show Calls Try.prog 112 #[.agg #[.int .i64 wd, .int .i64 ht, .slice A xs.length c], .int .i64 (k : Int)] w (RetV w (.agg #[.int .i64 xx, .int .i64 (rr), .int .i64 1, .int .i64 (1)]))
    rw [← HE.out]
    obtain ⟨pa_x1, pb_x1, pc_x1⟩ := ((Bx.new_ w (w.heap.size) 36 #[.int .i64 wd, .int .i64 ht, .slice A xs.length c] (by simp)).alloc (.cells #[.int .i64 0, .int .i64 0, .int .i64 0, .int .i64 0] 112)).three
    obtain ⟨ra_x1, rb_x1, rc_x1, rd_x1⟩ := (Bx.new_ (w.alloc (.cells #[.int .i64 wd, .int .i64 ht, .slice A xs.length c] 36)) (w.heap.size + 1) 112 #[.int .i64 0, .int .i64 0, .int .i64 0, .int .i64 0] (by simp)).four
    have rf0_x1 := (Bx.new_ (w.alloc (.cells #[.int .i64 wd, .int .i64 ht, .slice A xs.length c] 36)) (w.heap.size + 1) 112 #[.int .i64 0, .int .i64 0, .int .i64 0, .int .i64 0] (by simp)).frozen 0
    have rf1_x1 := (Bx.new_ (w.alloc (.cells #[.int .i64 wd, .int .i64 ht, .slice A xs.length c] 36)) (w.heap.size + 1) 112 #[.int .i64 0, .int .i64 0, .int .i64 0, .int .i64 0] (by simp)).frozen 1
    have rf2_x1 := (Bx.new_ (w.alloc (.cells #[.int .i64 wd, .int .i64 ht, .slice A xs.length c] 36)) (w.heap.size + 1) 112 #[.int .i64 0, .int .i64 0, .int .i64 0, .int .i64 0] (by simp)).frozen 2
    have rf3_x1 := (Bx.new_ (w.alloc (.cells #[.int .i64 wd, .int .i64 ht, .slice A xs.length c] 36)) (w.heap.size + 1) 112 #[.int .i64 0, .int .i64 0, .int .i64 0, .int .i64 0] (by simp)).frozen 3
    go_enter Try.func112, Try.ntmps112
    go_wp2_with fail
    go_quiet (fail)
    rename Nat => nn
    obtain ⟨ra_x2, rb_x2, rc_x2, rd_x2⟩ := ((Bx.new_ (w.alloc (.cells #[.int .i64 wd, .int .i64 ht, .slice A xs.length c] 36)) (w.heap.size + 1) 112 #[.int .i64 0, .int .i64 0, .int .i64 0, .int .i64 0] (by simp)).drewN nn).four
    have rf0_x2 := ((Bx.new_ (w.alloc (.cells #[.int .i64 wd, .int .i64 ht, .slice A xs.length c] 36)) (w.heap.size + 1) 112 #[.int .i64 0, .int .i64 0, .int .i64 0, .int .i64 0] (by simp)).drewN nn).frozen 0
    have rf1_x2 := ((Bx.new_ (w.alloc (.cells #[.int .i64 wd, .int .i64 ht, .slice A xs.length c] 36)) (w.heap.size + 1) 112 #[.int .i64 0, .int .i64 0, .int .i64 0, .int .i64 0] (by simp)).drewN nn).frozen 1
    have rf2_x2 := ((Bx.new_ (w.alloc (.cells #[.int .i64 wd, .int .i64 ht, .slice A xs.length c] 36)) (w.heap.size + 1) 112 #[.int .i64 0, .int .i64 0, .int .i64 0, .int .i64 0] (by simp)).drewN nn).frozen 2
    have rf3_x2 := ((Bx.new_ (w.alloc (.cells #[.int .i64 wd, .int .i64 ht, .slice A xs.length c] 36)) (w.heap.size + 1) 112 #[.int .i64 0, .int .i64 0, .int .i64 0, .int .i64 0] (by simp)).drewN nn).frozen 3
    obtain ⟨pa_x2, pb_x2, pc_x2⟩ := (((Bx.new_ w (w.heap.size) 36 #[.int .i64 wd, .int .i64 ht, .slice A xs.length c] (by simp)).alloc (.cells #[.int .i64 0, .int .i64 0, .int .i64 0, .int .i64 0] 112)).drewN nn).three
    obtain ⟨ra_x3, rb_x3, rc_x3, rd_x3⟩ := (((Bx.new_ (w.alloc (.cells #[.int .i64 wd, .int .i64 ht, .slice A xs.length c] 36)) (w.heap.size + 1) 112 #[.int .i64 0, .int .i64 0, .int .i64 0, .int .i64 0] (by simp)).drewN nn).set_ 0 (.int .i64 (xx))).four
    have rf0_x3 := (((Bx.new_ (w.alloc (.cells #[.int .i64 wd, .int .i64 ht, .slice A xs.length c] 36)) (w.heap.size + 1) 112 #[.int .i64 0, .int .i64 0, .int .i64 0, .int .i64 0] (by simp)).drewN nn).set_ 0 (.int .i64 (xx))).frozen 0
    have rf1_x3 := (((Bx.new_ (w.alloc (.cells #[.int .i64 wd, .int .i64 ht, .slice A xs.length c] 36)) (w.heap.size + 1) 112 #[.int .i64 0, .int .i64 0, .int .i64 0, .int .i64 0] (by simp)).drewN nn).set_ 0 (.int .i64 (xx))).frozen 1
    have rf2_x3 := (((Bx.new_ (w.alloc (.cells #[.int .i64 wd, .int .i64 ht, .slice A xs.length c] 36)) (w.heap.size + 1) 112 #[.int .i64 0, .int .i64 0, .int .i64 0, .int .i64 0] (by simp)).drewN nn).set_ 0 (.int .i64 (xx))).frozen 2
    have rf3_x3 := (((Bx.new_ (w.alloc (.cells #[.int .i64 wd, .int .i64 ht, .slice A xs.length c] 36)) (w.heap.size + 1) 112 #[.int .i64 0, .int .i64 0, .int .i64 0, .int .i64 0] (by simp)).drewN nn).set_ 0 (.int .i64 (xx))).frozen 3
    obtain ⟨ra_x4, rb_x4, rc_x4, rd_x4⟩ := ((((Bx.new_ (w.alloc (.cells #[.int .i64 wd, .int .i64 ht, .slice A xs.length c] 36)) (w.heap.size + 1) 112 #[.int .i64 0, .int .i64 0, .int .i64 0, .int .i64 0] (by simp)).drewN nn).set_ 0 (.int .i64 (xx))).set_ 1 (.int .i64 (rr))).four
    have rf0_x4 := ((((Bx.new_ (w.alloc (.cells #[.int .i64 wd, .int .i64 ht, .slice A xs.length c] 36)) (w.heap.size + 1) 112 #[.int .i64 0, .int .i64 0, .int .i64 0, .int .i64 0] (by simp)).drewN nn).set_ 0 (.int .i64 (xx))).set_ 1 (.int .i64 (rr))).frozen 0
    have rf1_x4 := ((((Bx.new_ (w.alloc (.cells #[.int .i64 wd, .int .i64 ht, .slice A xs.length c] 36)) (w.heap.size + 1) 112 #[.int .i64 0, .int .i64 0, .int .i64 0, .int .i64 0] (by simp)).drewN nn).set_ 0 (.int .i64 (xx))).set_ 1 (.int .i64 (rr))).frozen 1
    have rf2_x4 := ((((Bx.new_ (w.alloc (.cells #[.int .i64 wd, .int .i64 ht, .slice A xs.length c] 36)) (w.heap.size + 1) 112 #[.int .i64 0, .int .i64 0, .int .i64 0, .int .i64 0] (by simp)).drewN nn).set_ 0 (.int .i64 (xx))).set_ 1 (.int .i64 (rr))).frozen 2
    have rf3_x4 := ((((Bx.new_ (w.alloc (.cells #[.int .i64 wd, .int .i64 ht, .slice A xs.length c] 36)) (w.heap.size + 1) 112 #[.int .i64 0, .int .i64 0, .int .i64 0, .int .i64 0] (by simp)).drewN nn).set_ 0 (.int .i64 (xx))).set_ 1 (.int .i64 (rr))).frozen 3
    obtain ⟨ra_x5, rb_x5, rc_x5, rd_x5⟩ := (((((Bx.new_ (w.alloc (.cells #[.int .i64 wd, .int .i64 ht, .slice A xs.length c] 36)) (w.heap.size + 1) 112 #[.int .i64 0, .int .i64 0, .int .i64 0, .int .i64 0] (by simp)).drewN nn).set_ 0 (.int .i64 (xx))).set_ 1 (.int .i64 (rr))).set_ 2 (.int .i64 (1))).four
    have rf0_x5 := (((((Bx.new_ (w.alloc (.cells #[.int .i64 wd, .int .i64 ht, .slice A xs.length c] 36)) (w.heap.size + 1) 112 #[.int .i64 0, .int .i64 0, .int .i64 0, .int .i64 0] (by simp)).drewN nn).set_ 0 (.int .i64 (xx))).set_ 1 (.int .i64 (rr))).set_ 2 (.int .i64 (1))).frozen 0
    have rf1_x5 := (((((Bx.new_ (w.alloc (.cells #[.int .i64 wd, .int .i64 ht, .slice A xs.length c] 36)) (w.heap.size + 1) 112 #[.int .i64 0, .int .i64 0, .int .i64 0, .int .i64 0] (by simp)).drewN nn).set_ 0 (.int .i64 (xx))).set_ 1 (.int .i64 (rr))).set_ 2 (.int .i64 (1))).frozen 1
    have rf2_x5 := (((((Bx.new_ (w.alloc (.cells #[.int .i64 wd, .int .i64 ht, .slice A xs.length c] 36)) (w.heap.size + 1) 112 #[.int .i64 0, .int .i64 0, .int .i64 0, .int .i64 0] (by simp)).drewN nn).set_ 0 (.int .i64 (xx))).set_ 1 (.int .i64 (rr))).set_ 2 (.int .i64 (1))).frozen 2
    have rf3_x5 := (((((Bx.new_ (w.alloc (.cells #[.int .i64 wd, .int .i64 ht, .slice A xs.length c] 36)) (w.heap.size + 1) 112 #[.int .i64 0, .int .i64 0, .int .i64 0, .int .i64 0] (by simp)).drewN nn).set_ 0 (.int .i64 (xx))).set_ 1 (.int .i64 (rr))).set_ 2 (.int .i64 (1))).frozen 3
    obtain ⟨ra_x6, rb_x6, rc_x6, rd_x6⟩ := ((((((Bx.new_ (w.alloc (.cells #[.int .i64 wd, .int .i64 ht, .slice A xs.length c] 36)) (w.heap.size + 1) 112 #[.int .i64 0, .int .i64 0, .int .i64 0, .int .i64 0] (by simp)).drewN nn).set_ 0 (.int .i64 (xx))).set_ 1 (.int .i64 (rr))).set_ 2 (.int .i64 (1))).set_ 3 (.int .i64 (1))).four
    have rf0_x6 := ((((((Bx.new_ (w.alloc (.cells #[.int .i64 wd, .int .i64 ht, .slice A xs.length c] 36)) (w.heap.size + 1) 112 #[.int .i64 0, .int .i64 0, .int .i64 0, .int .i64 0] (by simp)).drewN nn).set_ 0 (.int .i64 (xx))).set_ 1 (.int .i64 (rr))).set_ 2 (.int .i64 (1))).set_ 3 (.int .i64 (1))).frozen 0
    have rf1_x6 := ((((((Bx.new_ (w.alloc (.cells #[.int .i64 wd, .int .i64 ht, .slice A xs.length c] 36)) (w.heap.size + 1) 112 #[.int .i64 0, .int .i64 0, .int .i64 0, .int .i64 0] (by simp)).drewN nn).set_ 0 (.int .i64 (xx))).set_ 1 (.int .i64 (rr))).set_ 2 (.int .i64 (1))).set_ 3 (.int .i64 (1))).frozen 1
    have rf2_x6 := ((((((Bx.new_ (w.alloc (.cells #[.int .i64 wd, .int .i64 ht, .slice A xs.length c] 36)) (w.heap.size + 1) 112 #[.int .i64 0, .int .i64 0, .int .i64 0, .int .i64 0] (by simp)).drewN nn).set_ 0 (.int .i64 (xx))).set_ 1 (.int .i64 (rr))).set_ 2 (.int .i64 (1))).set_ 3 (.int .i64 (1))).frozen 2
    have rf3_x6 := ((((((Bx.new_ (w.alloc (.cells #[.int .i64 wd, .int .i64 ht, .slice A xs.length c] 36)) (w.heap.size + 1) 112 #[.int .i64 0, .int .i64 0, .int .i64 0, .int .i64 0] (by simp)).drewN nn).set_ 0 (.int .i64 (xx))).set_ 1 (.int .i64 (rr))).set_ 2 (.int .i64 (1))).set_ 3 (.int .i64 (1))).frozen 3
    go_wp2_with fail
    obtain ⟨ra_z, rb_z, rc_z, rd_z⟩ := ((((((Bx.new_ (w.alloc (.cells #[.int .i64 wd, .int .i64 ht, .slice A xs.length c] 36)) (w.heap.size + 1) 112 #[.int .i64 0, .int .i64 0, .int .i64 0, .int .i64 0] (by simp)).drewN nn).set_ 0 (.int .i64 (xx))).set_ 1 (.int .i64 (rr))).set_ 2 (.int .i64 (1))).set_ 3 (.int .i64 (1))).four
    have rf0_z := ((((((Bx.new_ (w.alloc (.cells #[.int .i64 wd, .int .i64 ht, .slice A xs.length c] 36)) (w.heap.size + 1) 112 #[.int .i64 0, .int .i64 0, .int .i64 0, .int .i64 0] (by simp)).drewN nn).set_ 0 (.int .i64 (xx))).set_ 1 (.int .i64 (rr))).set_ 2 (.int .i64 (1))).set_ 3 (.int .i64 (1))).frozen 0
    have rf1_z := ((((((Bx.new_ (w.alloc (.cells #[.int .i64 wd, .int .i64 ht, .slice A xs.length c] 36)) (w.heap.size + 1) 112 #[.int .i64 0, .int .i64 0, .int .i64 0, .int .i64 0] (by simp)).drewN nn).set_ 0 (.int .i64 (xx))).set_ 1 (.int .i64 (rr))).set_ 2 (.int .i64 (1))).set_ 3 (.int .i64 (1))).frozen 1
    have rf2_z := ((((((Bx.new_ (w.alloc (.cells #[.int .i64 wd, .int .i64 ht, .slice A xs.length c] 36)) (w.heap.size + 1) 112 #[.int .i64 0, .int .i64 0, .int .i64 0, .int .i64 0] (by simp)).drewN nn).set_ 0 (.int .i64 (xx))).set_ 1 (.int .i64 (rr))).set_ 2 (.int .i64 (1))).set_ 3 (.int .i64 (1))).frozen 2
    have rf3_z := ((((((Bx.new_ (w.alloc (.cells #[.int .i64 wd, .int .i64 ht, .slice A xs.length c] 36)) (w.heap.size + 1) 112 #[.int .i64 0, .int .i64 0, .int .i64 0, .int .i64 0] (by simp)).drewN nn).set_ 0 (.int .i64 (xx))).set_ 1 (.int .i64 (rr))).set_ 2 (.int .i64 (1))).set_ 3 (.int .i64 (1))).frozen 3
    refine bodyPost_ret (v := .agg #[.int .i64 xx, .int .i64 (rr), .int .i64 1, .int .i64 (1)]) (by simp [results, Try.results112, go_sem, ra_z, rb_z, rc_z, rd_z]) rfl ?_
    exact ⟨rfl, (((((below_drewN' (((Below.refl w.heap.size w).alloc (by first | omega | (simp; omega) | simp) (.cells #[.int .i64 wd, .int .i64 ht, .slice A xs.length c] 36)).alloc (by first | omega | (simp; omega) | simp) (.cells #[.int .i64 0, .int .i64 0, .int .i64 0, .int .i64 0] 112)) nn).setCell (p := ⟨(w.heap.size + 1), 0, none⟩) (by first | omega | (simp; omega) | simp) (.int .i64 (xx))).setCell (p := ⟨(w.heap.size + 1), 1, none⟩) (by first | omega | (simp; omega) | simp) (.int .i64 (rr))).setCell (p := ⟨(w.heap.size + 1), 2, none⟩) (by first | omega | (simp; omega) | simp) (.int .i64 (1))).setCell (p := ⟨(w.heap.size + 1), 3, none⟩) (by first | omega | (simp; omega) | simp) (.int .i64 (1)))⟩
  ·
    have ho : (xx + rr) % 2 = 0 := by omega
    rw [if_neg (by omega)]
    rw [ho] at t7
    rw [p1] at t3
    rw [p2] at t4
    have HE : Hid ((rr + 1) = rr + 1) := hide (by omega)
    generalize hh : rr / 2 = h at *
    generalize hh2 : (rr + 1) / 2 = h2 at *
    have g1 : 0 ≤ h ∧ h ≤ 8 := by omega
    have g2 : 0 ≤ h2 ∧ h2 ≤ 8 := by omega
    clear hh hh2 p1 p2 ho
    show Calls Try.prog 112 #[.agg #[.int .i64 wd, .int .i64 ht, .slice A xs.length c], .int .i64 (k : Int)] w (RetV w (.agg #[.int .i64 xx, .int .i64 (rr + 1), .int .i64 1, .int .i64 (-1)]))
    rw [← HE.out]
    obtain ⟨pa_x1, pb_x1, pc_x1⟩ := ((Bx.new_ w (w.heap.size) 36 #[.int .i64 wd, .int .i64 ht, .slice A xs.length c] (by simp)).alloc (.cells #[.int .i64 0, .int .i64 0, .int .i64 0, .int .i64 0] 112)).three
    obtain ⟨ra_x1, rb_x1, rc_x1, rd_x1⟩ := (Bx.new_ (w.alloc (.cells #[.int .i64 wd, .int .i64 ht, .slice A xs.length c] 36)) (w.heap.size + 1) 112 #[.int .i64 0, .int .i64 0, .int .i64 0, .int .i64 0] (by simp)).four
    have rf0_x1 := (Bx.new_ (w.alloc (.cells #[.int .i64 wd, .int .i64 ht, .slice A xs.length c] 36)) (w.heap.size + 1) 112 #[.int .i64 0, .int .i64 0, .int .i64 0, .int .i64 0] (by simp)).frozen 0
    have rf1_x1 := (Bx.new_ (w.alloc (.cells #[.int .i64 wd, .int .i64 ht, .slice A xs.length c] 36)) (w.heap.size + 1) 112 #[.int .i64 0, .int .i64 0, .int .i64 0, .int .i64 0] (by simp)).frozen 1
    have rf2_x1 := (Bx.new_ (w.alloc (.cells #[.int .i64 wd, .int .i64 ht, .slice A xs.length c] 36)) (w.heap.size + 1) 112 #[.int .i64 0, .int .i64 0, .int .i64 0, .int .i64 0] (by simp)).frozen 2
    have rf3_x1 := (Bx.new_ (w.alloc (.cells #[.int .i64 wd, .int .i64 ht, .slice A xs.length c] 36)) (w.heap.size + 1) 112 #[.int .i64 0, .int .i64 0, .int .i64 0, .int .i64 0] (by simp)).frozen 3
    go_enter Try.func112, Try.ntmps112
    go_wp2_with fail
    go_quiet (fail)
    rename Nat => nn
    obtain ⟨ra_x2, rb_x2, rc_x2, rd_x2⟩ := ((Bx.new_ (w.alloc (.cells #[.int .i64 wd, .int .i64 ht, .slice A xs.length c] 36)) (w.heap.size + 1) 112 #[.int .i64 0, .int .i64 0, .int .i64 0, .int .i64 0] (by simp)).drewN nn).four
    have rf0_x2 := ((Bx.new_ (w.alloc (.cells #[.int .i64 wd, .int .i64 ht, .slice A xs.length c] 36)) (w.heap.size + 1) 112 #[.int .i64 0, .int .i64 0, .int .i64 0, .int .i64 0] (by simp)).drewN nn).frozen 0
    have rf1_x2 := ((Bx.new_ (w.alloc (.cells #[.int .i64 wd, .int .i64 ht, .slice A xs.length c] 36)) (w.heap.size + 1) 112 #[.int .i64 0, .int .i64 0, .int .i64 0, .int .i64 0] (by simp)).drewN nn).frozen 1
    have rf2_x2 := ((Bx.new_ (w.alloc (.cells #[.int .i64 wd, .int .i64 ht, .slice A xs.length c] 36)) (w.heap.size + 1) 112 #[.int .i64 0, .int .i64 0, .int .i64 0, .int .i64 0] (by simp)).drewN nn).frozen 2
    have rf3_x2 := ((Bx.new_ (w.alloc (.cells #[.int .i64 wd, .int .i64 ht, .slice A xs.length c] 36)) (w.heap.size + 1) 112 #[.int .i64 0, .int .i64 0, .int .i64 0, .int .i64 0] (by simp)).drewN nn).frozen 3
    obtain ⟨pa_x2, pb_x2, pc_x2⟩ := (((Bx.new_ w (w.heap.size) 36 #[.int .i64 wd, .int .i64 ht, .slice A xs.length c] (by simp)).alloc (.cells #[.int .i64 0, .int .i64 0, .int .i64 0, .int .i64 0] 112)).drewN nn).three
    obtain ⟨ra_x3, rb_x3, rc_x3, rd_x3⟩ := (((Bx.new_ (w.alloc (.cells #[.int .i64 wd, .int .i64 ht, .slice A xs.length c] 36)) (w.heap.size + 1) 112 #[.int .i64 0, .int .i64 0, .int .i64 0, .int .i64 0] (by simp)).drewN nn).set_ 0 (.int .i64 (xx))).four
    have rf0_x3 := (((Bx.new_ (w.alloc (.cells #[.int .i64 wd, .int .i64 ht, .slice A xs.length c] 36)) (w.heap.size + 1) 112 #[.int .i64 0, .int .i64 0, .int .i64 0, .int .i64 0] (by simp)).drewN nn).set_ 0 (.int .i64 (xx))).frozen 0
    have rf1_x3 := (((Bx.new_ (w.alloc (.cells #[.int .i64 wd, .int .i64 ht, .slice A xs.length c] 36)) (w.heap.size + 1) 112 #[.int .i64 0, .int .i64 0, .int .i64 0, .int .i64 0] (by simp)).drewN nn).set_ 0 (.int .i64 (xx))).frozen 1
    have rf2_x3 := (((Bx.new_ (w.alloc (.cells #[.int .i64 wd, .int .i64 ht, .slice A xs.length c] 36)) (w.heap.size + 1) 112 #[.int .i64 0, .int .i64 0, .int .i64 0, .int .i64 0] (by simp)).drewN nn).set_ 0 (.int .i64 (xx))).frozen 2
    have rf3_x3 := (((Bx.new_ (w.alloc (.cells #[.int .i64 wd, .int .i64 ht, .slice A xs.length c] 36)) (w.heap.size + 1) 112 #[.int .i64 0, .int .i64 0, .int .i64 0, .int .i64 0] (by simp)).drewN nn).set_ 0 (.int .i64 (xx))).frozen 3
    obtain ⟨ra_x4, rb_x4, rc_x4, rd_x4⟩ := ((((Bx.new_ (w.alloc (.cells #[.int .i64 wd, .int .i64 ht, .slice A xs.length c] 36)) (w.heap.size + 1) 112 #[.int .i64 0, .int .i64 0, .int .i64 0, .int .i64 0] (by simp)).drewN nn).set_ 0 (.int .i64 (xx))).set_ 1 (.int .i64 (rr + 1))).four
    have rf0_x4 := ((((Bx.new_ (w.alloc (.cells #[.int .i64 wd, .int .i64 ht, .slice A xs.length c] 36)) (w.heap.size + 1) 112 #[.int .i64 0, .int .i64 0, .int .i64 0, .int .i64 0] (by simp)).drewN nn).set_ 0 (.int .i64 (xx))).set_ 1 (.int .i64 (rr + 1))).frozen 0
    have rf1_x4 := ((((Bx.new_ (w.alloc (.cells #[.int .i64 wd, .int .i64 ht, .slice A xs.length c] 36)) (w.heap.size + 1) 112 #[.int .i64 0, .int .i64 0, .int .i64 0, .int .i64 0] (by simp)).drewN nn).set_ 0 (.int .i64 (xx))).set_ 1 (.int .i64 (rr + 1))).frozen 1
    have rf2_x4 := ((((Bx.new_ (w.alloc (.cells #[.int .i64 wd, .int .i64 ht, .slice A xs.length c] 36)) (w.heap.size + 1) 112 #[.int .i64 0, .int .i64 0, .int .i64 0, .int .i64 0] (by simp)).drewN nn).set_ 0 (.int .i64 (xx))).set_ 1 (.int .i64 (rr + 1))).frozen 2
    have rf3_x4 := ((((Bx.new_ (w.alloc (.cells #[.int .i64 wd, .int .i64 ht, .slice A xs.length c] 36)) (w.heap.size + 1) 112 #[.int .i64 0, .int .i64 0, .int .i64 0, .int .i64 0] (by simp)).drewN nn).set_ 0 (.int .i64 (xx))).set_ 1 (.int .i64 (rr + 1))).frozen 3
    obtain ⟨ra_x5, rb_x5, rc_x5, rd_x5⟩ := (((((Bx.new_ (w.alloc (.cells #[.int .i64 wd, .int .i64 ht, .slice A xs.length c] 36)) (w.heap.size + 1) 112 #[.int .i64 0, .int .i64 0, .int .i64 0, .int .i64 0] (by simp)).drewN nn).set_ 0 (.int .i64 (xx))).set_ 1 (.int .i64 (rr + 1))).set_ 2 (.int .i64 (1))).four
    have rf0_x5 := (((((Bx.new_ (w.alloc (.cells #[.int .i64 wd, .int .i64 ht, .slice A xs.length c] 36)) (w.heap.size + 1) 112 #[.int .i64 0, .int .i64 0, .int .i64 0, .int .i64 0] (by simp)).drewN nn).set_ 0 (.int .i64 (xx))).set_ 1 (.int .i64 (rr + 1))).set_ 2 (.int .i64 (1))).frozen 0
    have rf1_x5 := (((((Bx.new_ (w.alloc (.cells #[.int .i64 wd, .int .i64 ht, .slice A xs.length c] 36)) (w.heap.size + 1) 112 #[.int .i64 0, .int .i64 0, .int .i64 0, .int .i64 0] (by simp)).drewN nn).set_ 0 (.int .i64 (xx))).set_ 1 (.int .i64 (rr + 1))).set_ 2 (.int .i64 (1))).frozen 1
    have rf2_x5 := (((((Bx.new_ (w.alloc (.cells #[.int .i64 wd, .int .i64 ht, .slice A xs.length c] 36)) (w.heap.size + 1) 112 #[.int .i64 0, .int .i64 0, .int .i64 0, .int .i64 0] (by simp)).drewN nn).set_ 0 (.int .i64 (xx))).set_ 1 (.int .i64 (rr + 1))).set_ 2 (.int .i64 (1))).frozen 2
    have rf3_x5 := (((((Bx.new_ (w.alloc (.cells #[.int .i64 wd, .int .i64 ht, .slice A xs.length c] 36)) (w.heap.size + 1) 112 #[.int .i64 0, .int .i64 0, .int .i64 0, .int .i64 0] (by simp)).drewN nn).set_ 0 (.int .i64 (xx))).set_ 1 (.int .i64 (rr + 1))).set_ 2 (.int .i64 (1))).frozen 3
    obtain ⟨ra_x6, rb_x6, rc_x6, rd_x6⟩ := ((((((Bx.new_ (w.alloc (.cells #[.int .i64 wd, .int .i64 ht, .slice A xs.length c] 36)) (w.heap.size + 1) 112 #[.int .i64 0, .int .i64 0, .int .i64 0, .int .i64 0] (by simp)).drewN nn).set_ 0 (.int .i64 (xx))).set_ 1 (.int .i64 (rr + 1))).set_ 2 (.int .i64 (1))).set_ 3 (.int .i64 (-1))).four
    have rf0_x6 := ((((((Bx.new_ (w.alloc (.cells #[.int .i64 wd, .int .i64 ht, .slice A xs.length c] 36)) (w.heap.size + 1) 112 #[.int .i64 0, .int .i64 0, .int .i64 0, .int .i64 0] (by simp)).drewN nn).set_ 0 (.int .i64 (xx))).set_ 1 (.int .i64 (rr + 1))).set_ 2 (.int .i64 (1))).set_ 3 (.int .i64 (-1))).frozen 0
    have rf1_x6 := ((((((Bx.new_ (w.alloc (.cells #[.int .i64 wd, .int .i64 ht, .slice A xs.length c] 36)) (w.heap.size + 1) 112 #[.int .i64 0, .int .i64 0, .int .i64 0, .int .i64 0] (by simp)).drewN nn).set_ 0 (.int .i64 (xx))).set_ 1 (.int .i64 (rr + 1))).set_ 2 (.int .i64 (1))).set_ 3 (.int .i64 (-1))).frozen 1
    have rf2_x6 := ((((((Bx.new_ (w.alloc (.cells #[.int .i64 wd, .int .i64 ht, .slice A xs.length c] 36)) (w.heap.size + 1) 112 #[.int .i64 0, .int .i64 0, .int .i64 0, .int .i64 0] (by simp)).drewN nn).set_ 0 (.int .i64 (xx))).set_ 1 (.int .i64 (rr + 1))).set_ 2 (.int .i64 (1))).set_ 3 (.int .i64 (-1))).frozen 2
    have rf3_x6 := ((((((Bx.new_ (w.alloc (.cells #[.int .i64 wd, .int .i64 ht, .slice A xs.length c] 36)) (w.heap.size + 1) 112 #[.int .i64 0, .int .i64 0, .int .i64 0, .int .i64 0] (by simp)).drewN nn).set_ 0 (.int .i64 (xx))).set_ 1 (.int .i64 (rr + 1))).set_ 2 (.int .i64 (1))).set_ 3 (.int .i64 (-1))).frozen 3
    go_wp2_with fail
    obtain ⟨ra_z, rb_z, rc_z, rd_z⟩ := ((((((Bx.new_ (w.alloc (.cells #[.int .i64 wd, .int .i64 ht, .slice A xs.length c] 36)) (w.heap.size + 1) 112 #[.int .i64 0, .int .i64 0, .int .i64 0, .int .i64 0] (by simp)).drewN nn).set_ 0 (.int .i64 (xx))).set_ 1 (.int .i64 (rr + 1))).set_ 2 (.int .i64 (1))).set_ 3 (.int .i64 (-1))).four
    have rf0_z := ((((((Bx.new_ (w.alloc (.cells #[.int .i64 wd, .int .i64 ht, .slice A xs.length c] 36)) (w.heap.size + 1) 112 #[.int .i64 0, .int .i64 0, .int .i64 0, .int .i64 0] (by simp)).drewN nn).set_ 0 (.int .i64 (xx))).set_ 1 (.int .i64 (rr + 1))).set_ 2 (.int .i64 (1))).set_ 3 (.int .i64 (-1))).frozen 0
    have rf1_z := ((((((Bx.new_ (w.alloc (.cells #[.int .i64 wd, .int .i64 ht, .slice A xs.length c] 36)) (w.heap.size + 1) 112 #[.int .i64 0, .int .i64 0, .int .i64 0, .int .i64 0] (by simp)).drewN nn).set_ 0 (.int .i64 (xx))).set_ 1 (.int .i64 (rr + 1))).set_ 2 (.int .i64 (1))).set_ 3 (.int .i64 (-1))).frozen 1
    have rf2_z := ((((((Bx.new_ (w.alloc (.cells #[.int .i64 wd, .int .i64 ht, .slice A xs.length c] 36)) (w.heap.size + 1) 112 #[.int .i64 0, .int .i64 0, .int .i64 0, .int .i64 0] (by simp)).drewN nn).set_ 0 (.int .i64 (xx))).set_ 1 (.int .i64 (rr + 1))).set_ 2 (.int .i64 (1))).set_ 3 (.int .i64 (-1))).frozen 2
    have rf3_z := ((((((Bx.new_ (w.alloc (.cells #[.int .i64 wd, .int .i64 ht, .slice A xs.length c] 36)) (w.heap.size + 1) 112 #[.int .i64 0, .int .i64 0, .int .i64 0, .int .i64 0] (by simp)).drewN nn).set_ 0 (.int .i64 (xx))).set_ 1 (.int .i64 (rr + 1))).set_ 2 (.int .i64 (1))).set_ 3 (.int .i64 (-1))).frozen 3
    refine bodyPost_ret (v := .agg #[.int .i64 xx, .int .i64 (rr + 1), .int .i64 1, .int .i64 (-1)]) (by simp [results, Try.results112, go_sem, ra_z, rb_z, rc_z, rd_z]) rfl ?_
    exact ⟨rfl, (((((below_drewN' (((Below.refl w.heap.size w).alloc (by first | omega | (simp; omega) | simp) (.cells #[.int .i64 wd, .int .i64 ht, .slice A xs.length c] 36)).alloc (by first | omega | (simp; omega) | simp) (.cells #[.int .i64 0, .int .i64 0, .int .i64 0, .int .i64 0] 112)) nn).setCell (p := ⟨(w.heap.size + 1), 0, none⟩) (by first | omega | (simp; omega) | simp) (.int .i64 (xx))).setCell (p := ⟨(w.heap.size + 1), 1, none⟩) (by first | omega | (simp; omega) | simp) (.int .i64 (rr + 1))).setCell (p := ⟨(w.heap.size + 1), 2, none⟩) (by first | omega | (simp; omega) | simp) (.int .i64 (1))).setCell (p := ⟨(w.heap.size + 1), 3, none⟩) (by first | omega | (simp; omega) | simp) (.int .i64 (-1)))⟩

set_option maxHeartbeats 4000000 in
theorem l03Walker_any (b0 : Nat) (wd ht : Int) (A : Option Addr) (c : Nat) (xs : List Int) (k : Nat) (w : World) (hp : PA w b0 wd ht A c xs) (hs : Sz wd ht) (hk : k < nSeg wd ht) :
    Calls Try.prog 164 #[.pointer (some ⟨b0, 0, none⟩), .int .i64 (k : Int)] w (RetV w (.agg #[.int .i64 ((walkK ht k).x), .int .i64 ((walkK ht k).y), .int .i64 ((walkK ht k).dx), .int .i64 ((walkK ht k).dy)])) := by
  obtain ⟨⟨d1, d2⟩, ⟨d3, d4⟩⟩ := div_facts hs hk
  have hkn : (k : Int) ≤ 256 := by have := nSeg_int hs; omega
  obtain ⟨s1, s2, s3, s4⟩ := hs
  have t1 : Int.tdiv (k : Int) (2 * ht) = (k : Int) / (2 * ht) := Int.tdiv_eq_ediv_of_nonneg (by omega)
  have t2 : Int.tmod (k : Int) (2 * ht) = (k : Int) % (2 * ht) := Int.tmod_eq_emod_of_nonneg (by omega)
  have n1 : ((2 * ht) == 0) = false := eqf (by omega)
  have n2 : ¬ (2 * ht) = 0 := by omega
  unfold walkK
  generalize (k : Int) / (2 * ht) = xx at *
  generalize (k : Int) % (2 * ht) = rr at *
  have t3 : Int.tmod xx 2 = xx % 2 := Int.tmod_eq_emod_of_nonneg (by omega)
  have t4 : Int.tmod rr 2 = rr % 2 := Int.tmod_eq_emod_of_nonneg (by omega)
  have t5 : Int.tdiv rr 2 = rr / 2 := Int.tdiv_eq_ediv_of_nonneg (by omega)
  have t6 : Int.tdiv (rr + 1) 2 = (rr + 1) / 2 := Int.tdiv_eq_ediv_of_nonneg (by omega)
  have t7 : Int.tmod (xx + rr) 2 = (xx + rr) % 2 := Int.tmod_eq_emod_of_nonneg (by omega)
  have h4 : (xx % 2 = 0 ∨ xx % 2 = 1) ∧ (rr % 2 = 0 ∨ rr % 2 = 1) := by omega
  obtain ⟨p1, p2⟩ := h4
  rcases p1 with p1 | p1 <;> rcases p2 with p2 | p2
  ·
    have ho : (xx + rr) % 2 = 0 := by omega
    rw [if_neg (by omega)]
    rw [ho] at t7
    rw [p1] at t3
    rw [p2] at t4
    have HE : Hid (((rr / 2) * 2 + 1) = rr + 1) := hide (by omega)
    generalize hh : rr / 2 = h at *
    generalize hh2 : (rr + 1) / 2 = h2 at *
    have g1 : 0 ≤ h ∧ h ≤ 8 := by omega
    have g2 : 0 ≤ h2 ∧ h2 ≤ 8 := by omega
    clear hh hh2 p1 p2 ho
    show Calls Try.prog 164 #[.pointer (some ⟨b0, 0, none⟩), .int .i64 (k : Int)] w (RetV w (.agg #[.int .i64 xx, .int .i64 (rr + 1), .int .i64 1, .int .i64 (-1)]))
    rw [← HE.out]
    have c1 := hp.c1
    have c1 := (hp.below ((Below.refl w.heap.size w).alloc (by first | omega | (simp; omega) | simp) (.cells #[.int .i64 0, .int .i64 0, .int .i64 0, .int .i64 0] 112))).c1
    go_enter Try.func164, Try.ntmps164
    go_wp2_with fail
    refine bodyPost_ret (v := .agg #[.int .i64 xx, .int .i64 (h * 2 + 1), .int .i64 1, .int .i64 (-1)]) (by simp [results, Try.results164, go_sem]) rfl ?_
    refine ⟨rfl, ?_⟩
    exact (Below.refl _ _).alloc (Nat.le_refl _) _
  ·
    have ho : (xx + rr) % 2 = 1 := by omega
    rw [if_pos ho]
    rw [ho] at t7
    rw [p1] at t3
    rw [p2] at t4
    have HE : Hid (((rr / 2) * 2 + 1) = rr) := hide (by omega)
    generalize hh : rr / 2 = h at *
    generalize hh2 : (rr + 1) / 2 = h2 at *
    have g1 : 0 ≤ h ∧ h ≤ 8 := by omega
    have g2 : 0 ≤ h2 ∧ h2 ≤ 8 := by omega
    clear hh hh2 p1 p2 ho
    show Calls Try.prog 164 #[.pointer (some ⟨b0, 0, none⟩), .int .i64 (k : Int)] w (RetV w (.agg #[.int .i64 xx, .int .i64 (rr), .int .i64 1, .int .i64 (1)]))
    rw [← HE.out]
    have c1 := hp.c1
    have c1 := (hp.below ((Below.refl w.heap.size w).alloc (by first | omega | (simp; omega) | simp) (.cells #[.int .i64 0, .int .i64 0, .int .i64 0, .int .i64 0] 112))).c1
    go_enter Try.func164, Try.ntmps164
    go_wp2_with fail
    refine bodyPost_ret (v := .agg #[.int .i64 xx, .int .i64 (h * 2 + 1), .int .i64 1, .int .i64 (1)]) (by simp [results, Try.results164, go_sem]) rfl ?_
    refine ⟨rfl, ?_⟩
    exact (Below.refl _ _).alloc (Nat.le_refl _) _
  ·
    have ho : (xx + rr) % 2 = 1 := by omega
    rw [if_pos ho]
    rw [ho] at t7
    rw [p1] at t3
    rw [p2] at t4
    have HE : Hid ((((rr + 1) / 2) * 2) = rr) := hide (by omega)
    generalize hh : rr / 2 = h at *
    generalize hh2 : (rr + 1) / 2 = h2 at *
    have g1 : 0 ≤ h ∧ h ≤ 8 := by omega
    have g2 : 0 ≤ h2 ∧ h2 ≤ 8 := by omega
    clear hh hh2 p1 p2 ho
    show Calls Try.prog 164 #[.pointer (some ⟨b0, 0, none⟩), .int .i64 (k : Int)] w (RetV w (.agg #[.int .i64 xx, .int .i64 (rr), .int .i64 1, .int .i64 (1)]))
    rw [← HE.out]
    have c1 := hp.c1
    have c1 := (hp.below ((Below.refl w.heap.size w).alloc (by first | omega | (simp; omega) | simp) (.cells #[.int .i64 0, .int .i64 0, .int .i64 0, .int .i64 0] 112))).c1
    go_enter Try.func164, Try.ntmps164
    go_wp2_with fail
    refine bodyPost_ret (v := .agg #[.int .i64 xx, .int .i64 (h2 * 2), .int .i64 1, .int .i64 (1)]) (by simp [results, Try.results164, go_sem]) rfl ?_
    refine ⟨rfl, ?_⟩
    first | exact ((Below.refl _ _).alloc (Nat.le_refl _) _).alloc (by simp) _ | fail
  ·
    have ho : (xx + rr) % 2 = 0 := by omega
    rw [if_neg (by omega)]
    rw [ho] at t7
    rw [p1] at t3
    rw [p2] at t4
    have HE : Hid ((((rr + 1) / 2) * 2) = rr + 1) := hide (by omega)
    generalize hh : rr / 2 = h at *
    generalize hh2 : (rr + 1) / 2 = h2 at *
    have g1 : 0 ≤ h ∧ h ≤ 8 := by omega
    have g2 : 0 ≤ h2 ∧ h2 ≤ 8 := by omega
    clear hh hh2 p1 p2 ho
    show Calls Try.prog 164 #[.pointer (some ⟨b0, 0, none⟩), .int .i64 (k : Int)] w (RetV w (.agg #[.int .i64 xx, .int .i64 (rr + 1), .int .i64 1, .int .i64 (-1)]))
    rw [← HE.out]
    have c1 := hp.c1
    have c1 := (hp.below ((Below.refl w.heap.size w).alloc (by first | omega | (simp; omega) | simp) (.cells #[.int .i64 0, .int .i64 0, .int .i64 0, .int .i64 0] 112))).c1
    go_enter Try.func164, Try.ntmps164
    go_wp2_with fail
    refine bodyPost_ret (v := .agg #[.int .i64 xx, .int .i64 (h2 * 2), .int .i64 1, .int .i64 (-1)]) (by simp [results, Try.results164, go_sem]) rfl ?_
    refine ⟨rfl, ?_⟩
    first | exact ((Below.refl _ _).alloc (Nat.le_refl _) _).alloc (by simp) _ | fail

def slopeI (x : Int) : Int := if x % 2 = 1 then 1 else -1
theorem slope_pm (x : Int) : slopeI x = 1 ∨ slopeI x = -1 := by unfold slopeI; split <;> simp
theorem l13Slope_any (x y : Int) (w : World) (x1 : 0 ≤ x) (x2 : x ≤ 16) :
    Calls Try.prog 175 #[.agg #[.int .i64 x, .int .i64 y]] w (RetV w (.int .i64 (slopeI x))) := by
  have t : Int.tmod x 2 = x % 2 := Int.tmod_eq_emod_of_nonneg (by omega)
  obtain ⟨pa_x1, pb_x1⟩ := (Bx.new_ w (w.heap.size) 110 #[.int .i64 x, .int .i64 y] (by simp)).two
  by_cases h : x % 2 = 1
  · have HV : Hid (slopeI x = 1) := hide (if_pos h)
    rw [h] at t
    clear h
    go_enter Try.func175, Try.ntmps175
    go_wp2_with fail
    go_ret
    rw [HV.out]
    exact ⟨rfl, ((Below.refl w.heap.size w).alloc (by first | omega | (simp; omega) | simp) (.cells #[.int .i64 x, .int .i64 y] 110))⟩
  · have HV : Hid (slopeI x = -1) := hide (if_neg h)
    rw [show x % 2 = 0 by omega] at t
    clear h
    go_enter Try.func175, Try.ntmps175
    go_wp2_with fail
    go_ret
    rw [HV.out]
    exact ⟨rfl, ((Below.refl w.heap.size w).alloc (by first | omega | (simp; omega) | simp) (.cells #[.int .i64 x, .int .i64 y] 110))⟩
theorem overSlope_any (x y : Int) (w : World) (x1 : 0 ≤ x) (x2 : x ≤ 16) :
    Calls Try.prog 118 #[.agg #[.int .i64 x, .int .i64 y]] w (RetV w (.int .i64 (slopeI x))) := by
  have t : Int.tmod x 2 = x % 2 := Int.tmod_eq_emod_of_nonneg (by omega)
  obtain ⟨pa_x1, pb_x1⟩ := (Bx.new_ w (w.heap.size) 110 #[.int .i64 x, .int .i64 y] (by simp)).two
  by_cases h : x % 2 = 1
  · have HV : Hid (slopeI x = 1) := hide (if_pos h)
    rw [h] at t
    clear h
    go_enter Try.func118, Try.ntmps118
    go_wp2_with fail
    go_ret
    rw [HV.out]
    exact ⟨rfl, ((Below.refl w.heap.size w).alloc (by first | omega | (simp; omega) | simp) (.cells #[.int .i64 x, .int .i64 y] 110))⟩
  · have HV : Hid (slopeI x = -1) := hide (if_neg h)
    rw [show x % 2 = 0 by omega] at t
    clear h
    go_enter Try.func118, Try.ntmps118
    go_wp2_with fail
    go_ret
    rw [HV.out]
    exact ⟨rfl, ((Below.refl w.heap.size w).alloc (by first | omega | (simp; omega) | simp) (.cells #[.int .i64 x, .int .i64 y] 110))⟩

/-- does a walker pass over the crossing at its next point? -/
def overB (a : Wk) : Bool := slopeI a.nx == a.dx * a.dy
set_option maxHeartbeats 2000000 in
theorem l13Over_any (wd ht : Int) (a : Wk) (w : World) (hs : Sz wd ht) (ha : OkW wd ht a) :
    Calls Try.prog 169 #[.agg #[.int .i64 a.x, .int .i64 a.y, .int .i64 a.dx, .int .i64 a.dy]] w (RetV w (.bool (overB a))) := by
  unfold overB
  have hnx : ∀ W, Calls Try.prog 166 #[.agg #[.int .i64 a.x, .int .i64 a.y, .int .i64 a.dx, .int .i64 a.dy]] W (RetV W (.agg #[.int .i64 a.nx, .int .i64 a.ny])) := fun W => l03Next_any wd ht a W hs ha
  obtain ⟨g1, g2, g3, g4, g5, g6⟩ := ha.bounds hs
  have hsl : ∀ W, Calls Try.prog 175 #[.agg #[.int .i64 a.nx, .int .i64 a.ny]] W (RetV W (.int .i64 (slopeI a.nx))) := fun W => l13Slope_any a.nx a.ny W g3.1 g3.2
  have hm : -1 ≤ a.dx * a.dy ∧ a.dx * a.dy ≤ 1 := by rcases g5 with h | h <;> rcases g6 with h2 | h2 <;> rw [h, h2] <;> decide
  have hw : IntKind.i64.wrap (a.dx * a.dy) = a.dx * a.dy := by rw [IntKind.wrap_i64]; omega
  generalize slopeI a.nx = s at *
  clear ha hs
  obtain ⟨x, y, dx, dy⟩ := a
  simp only at g1 g2 g5 g6 hm hw hnx hsl ⊢
  generalize Wk.nx ⟨x, y, dx, dy⟩ = X at *
  generalize Wk.ny ⟨x, y, dx, dy⟩ = Y at *
  clear g1 g2 g3 g4 g5 g6
  obtain ⟨W0, hW0⟩ : ∃ W0, W0 = (w.alloc (.cells #[.int .i64 x, .int .i64 y, .int .i64 dx, .int .i64 dy] 112)) := ⟨_, rfl⟩
  have hwk := (Bx.new_ w (w.heap.size) 112 #[.int .i64 x, .int .i64 y, .int .i64 dx, .int .i64 dy] (by simp))
  have f0 : ∀ v : BelowOf (w.alloc (.cells #[.int .i64 x, .int .i64 y, .int .i64 dx, .int .i64 dy] 112)), v.w.cell? ⟨w.heap.size, 0, none⟩ = some (.int .i64 x) := fun v => (hwk.below v.h).four.1
  have f1 : ∀ v : BelowOf (w.alloc (.cells #[.int .i64 x, .int .i64 y, .int .i64 dx, .int .i64 dy] 112)), v.w.cell? ⟨w.heap.size, 1, none⟩ = some (.int .i64 y) := fun v => (hwk.below v.h).four.2.1
  have f2 : ∀ v : BelowOf (w.alloc (.cells #[.int .i64 x, .int .i64 y, .int .i64 dx, .int .i64 dy] 112)), v.w.cell? ⟨w.heap.size, 2, none⟩ = some (.int .i64 dx) := fun v => (hwk.below v.h).four.2.2.1
  have f3 : ∀ v : BelowOf (w.alloc (.cells #[.int .i64 x, .int .i64 y, .int .i64 dx, .int .i64 dy] 112)), v.w.cell? ⟨w.heap.size, 3, none⟩ = some (.int .i64 dy) := fun v => (hwk.below v.h).four.2.2.2
  have hB := ((Below.refl w.heap.size w).alloc (by first | omega | (simp; omega) | simp) (.cells #[.int .i64 x, .int .i64 y, .int .i64 dx, .int .i64 dy] 112))
  have hC0 : Below ((w.alloc (.cells #[.int .i64 x, .int .i64 y, .int .i64 dx, .int .i64 dy] 112))).heap.size (w.alloc (.cells #[.int .i64 x, .int .i64 y, .int .i64 dx, .int .i64 dy] 112)) ((w.alloc (.cells #[.int .i64 x, .int .i64 y, .int .i64 dx, .int .i64 dy] 112))).drew := (Below.refl _ _).drew
  go_enter Try.func169, Try.ntmps169
  go_wp2_with fail
  refine region_below (by kernel_rfl) (by kernel_rfl) hC0 ?_
  repeat (go_big_quiet_step (first | exact BelowOf.ret (hnx _) | exact BelowOf.ret (hsl _)))
  refine wpQuiet_nil ?_
  rintro w4 ⟨⟨w4, hb4⟩, rfl⟩
  go_wp2_with fail
  go_ret
  exact ⟨rfl, hB.trans (hb4.mono hB.size)⟩
end Go.Proofs.Ytnjojnnapdhijaa
