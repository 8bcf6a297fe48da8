/-
  The core of the walk of the law FnExactStrokeBox: the law answers true wherever the two functions hand back the same. Conditions: the two functions' contracts, given as hypotheses.
-/
import Derived.Test.YtbleipaekdhdmaaPts
import Derived.Test.YtbleipaekdhdmaaOpenPts
import Derived.Deep.DeepCutAuto
import Derived.Deep.RegionHeld3
namespace Go.Proofs.Ytbleipaekdhdmaa
open Go.RowKit
set_option linter.unusedVariables false

set_option maxHeartbeats 1000000 in
theorem walk_StrokeBox_big0 (A0 : Option Addr) (c0 : Nat) (xs0 : List (Int × Int)) (w : World) (hx0 : ArgP w A0 c0 xs0)  (hno : 1048576 < xs0.length) :
    Calls Try.prog 4 #[.slice A0 xs0.length c0] w fun e w' => e = .returned (.bool true) ∧ Below w.heap.size w w' := by
  obtain ⟨hl0, hm0, hr0, hi0⟩ := hx0
  go_enter Try.func4, Try.ntmps4
  go_wp2_with fail
  have k0 : (1048576 : Int) < ((xs0.length : Nat) : Int) := by omega
  refine (szPointS_no _ _ _ _ _ (by omega) k0 (by omega)).mono ?_
  rintro e w1 ⟨rfl, hb1⟩
  have r0_1 := (hr0).below hb1
  have z_1 : w.heap.size ≤ w1.heap.size := hb1.size
  have B_1 := (Below.refl w.heap.size w).trans (hb1.mono (by first | omega | (simp; omega) | simp))
  go_wp2_with fail
  go_ret
  exact ⟨rfl, B_1⟩

set_option maxRecDepth 20000 in
set_option maxHeartbeats 4000000 in
theorem walk_StrokeBox_core (A0 : Option Addr) (c0 : Nat) (xs0 : List (Int × Int)) (w : World) (hx0 : ArgP w A0 c0 xs0) (hsm : xs0.length ≤ 1048576) (vx0 vy0 : Int) (vx1 vy1 : Int) (v2 : Int) 
    (hspec0 : ∀ (W : World) (B0 : Option Addr) (d0 : Nat), RP W B0 xs0 → (xs0.length ≤ d0 ∧ d0 ≤ 9223372036854775807) → Calls Try.prog 15 #[.slice B0 xs0.length d0] W (RetV W (.tuple #[.agg #[.int .i64 vx0, .int .i64 vy0], .agg #[.int .i64 vx1, .int .i64 vy1], .int .i64 v2])))
    (himpl0 : ∀ (W : World) (B0 : Option Addr) (d0 : Nat), RP W B0 xs0 → (xs0.length ≤ d0 ∧ d0 ≤ 9223372036854775807) → Calls Try.prog 16 #[.slice B0 xs0.length d0] W (RetV W (.tuple #[.agg #[.int .i64 vx0, .int .i64 vy0], .agg #[.int .i64 vx1, .int .i64 vy1], .int .i64 v2]))) :
    Calls Try.prog 4 #[.slice A0 xs0.length c0] w fun e w' => e = .returned (.bool true) ∧ Below w.heap.size w w' := by
  obtain ⟨hl0, hm0, hr0, hi0⟩ := hx0
  have hspec := hide hspec0; have himpl := hide himpl0; clear hspec0 himpl0
  have hn0 : xs0.length ≤ 1048576 := by omega
  have hv2 : (v2 != v2) = false := by simp
  go_enter Try.func4, Try.ntmps4
  go_wp2_with fail
  have k_0 : ((xs0.length : Nat) : Int) ≤ 1048576 := by omega
  refine (szPointS_ok _ _ _ _ _ k_0 (by omega)).mono ?_
  rintro e w1 ⟨rfl, hb1⟩
  have r0_1 := (hr0).below hb1
  have z_1 : w.heap.size ≤ w1.heap.size := hb1.size
  have B_1 := (Below.refl w.heap.size w).trans (hb1.mono (by first | omega | (simp; omega) | simp))
  have kk_1 : ¬ (1048576 - (xs0.length : Int) < 0) := by omega
  go_wp2_with fail
  refine (toPointS_any _ _ xs0 _ (r0_1) hn0).mono ?_
  rintro e w2 ⟨E2, f2, rfl, t0_0_2, hb2⟩
  have r0_2 := (r0_1).below hb2
  have z_2 : w1.heap.size ≤ w2.heap.size := hb2.size
  have B_2 := (B_1).trans (hb2.mono (by first | omega | (simp; omega) | simp))
  go_wp2_with fail
  refine (hspec.out _ _ _ ((t0_0_2).rd) (t0_0_2).cap_).mono ?_
  rintro e w3 ⟨rfl, hb3⟩
  have r0_3 := (r0_2).below hb3
  have t0_0_3 := (t0_0_2).below hb3
  have z_3 : w2.heap.size ≤ w3.heap.size := hb3.size
  have B_3 := (B_2).trans (hb3.mono (by first | omega | (simp; omega) | simp))
  obtain ⟨w0a_3x3, w0b_3x3⟩ := (Bx.new_ w3 (w3.heap.size) 30 #[.int .i64 vx0, .int .i64 vy0] (by simp)).two
  obtain ⟨w0a_3x4, w0b_3x4⟩ := ((Bx.new_ w3 (w3.heap.size) 30 #[.int .i64 vx0, .int .i64 vy0] (by simp)).alloc (.cells #[.int .i64 vx1, .int .i64 vy1] 30)).two
  obtain ⟨w1a_3x4, w1b_3x4⟩ := (Bx.new_ (w3.alloc (.cells #[.int .i64 vx0, .int .i64 vy0] 30)) (w3.heap.size + 1) 30 #[.int .i64 vx1, .int .i64 vy1] (by simp)).two
  go_wp2_with fail
  refine (toPointS_any _ _ xs0 _ (((r0_3).alloc (.cells #[.int .i64 vx0, .int .i64 vy0] 30)).alloc (.cells #[.int .i64 vx1, .int .i64 vy1] 30)) hn0).mono ?_
  rintro e w4 ⟨E4, f4, rfl, t0_4_4, hb4⟩
  have r0_4 := (((r0_3).alloc (.cells #[.int .i64 vx0, .int .i64 vy0] 30)).alloc (.cells #[.int .i64 vx1, .int .i64 vy1] 30)).below hb4
  have t0_0_4 := (((t0_0_3).alloc (.cells #[.int .i64 vx0, .int .i64 vy0] 30)).alloc (.cells #[.int .i64 vx1, .int .i64 vy1] 30)).below hb4
  have w0_4 := ((Bx.new_ w3 (w3.heap.size) 30 #[.int .i64 vx0, .int .i64 vy0] (by simp)).alloc (.cells #[.int .i64 vx1, .int .i64 vy1] 30)).below hb4
  obtain ⟨w0a_4, w0b_4⟩ := w0_4.two
  have w1_4 := (Bx.new_ (w3.alloc (.cells #[.int .i64 vx0, .int .i64 vy0] 30)) (w3.heap.size + 1) 30 #[.int .i64 vx1, .int .i64 vy1] (by simp)).below hb4
  obtain ⟨w1a_4, w1b_4⟩ := w1_4.two
  have z_4 : ((w3.alloc (.cells #[.int .i64 vx0, .int .i64 vy0] 30)).alloc (.cells #[.int .i64 vx1, .int .i64 vy1] 30)).heap.size ≤ w4.heap.size := hb4.size
  simp only [World.size_alloc] at z_4
  have B_4 := (((B_3).alloc (by first | omega | (simp; omega) | simp) (.cells #[.int .i64 vx0, .int .i64 vy0] 30)).alloc (by first | omega | (simp; omega) | simp) (.cells #[.int .i64 vx1, .int .i64 vy1] 30)).trans (hb4.mono (by first | omega | (simp; omega) | simp))
  go_wp2_with fail
  refine (himpl.out _ _ _ ((t0_4_4).rd) (t0_4_4).cap_).mono ?_
  rintro e w5 ⟨rfl, hb5⟩
  have r0_5 := (r0_4).below hb5
  have t0_0_5 := (t0_0_4).below hb5
  have w0_5 := (w0_4).below hb5
  obtain ⟨w0a_5, w0b_5⟩ := w0_5.two
  have w1_5 := (w1_4).below hb5
  obtain ⟨w1a_5, w1b_5⟩ := w1_5.two
  have t0_4_5 := (t0_4_4).below hb5
  have z_5 : w4.heap.size ≤ w5.heap.size := hb5.size
  have B_5 := (B_4).trans (hb5.mono (by first | omega | (simp; omega) | simp))
  obtain ⟨w0a_5x7, w0b_5x7⟩ := ((w0_5).alloc (.cells #[.int .i64 vx0, .int .i64 vy0] 30)).two
  obtain ⟨w1a_5x7, w1b_5x7⟩ := ((w1_5).alloc (.cells #[.int .i64 vx0, .int .i64 vy0] 30)).two
  obtain ⟨g0a_5x7, g0b_5x7⟩ := (Bx.new_ w5 (w5.heap.size) 30 #[.int .i64 vx0, .int .i64 vy0] (by simp)).two
  obtain ⟨w0a_5x8, w0b_5x8⟩ := (((w0_5).alloc (.cells #[.int .i64 vx0, .int .i64 vy0] 30)).alloc (.cells #[.int .i64 vx1, .int .i64 vy1] 30)).two
  obtain ⟨w1a_5x8, w1b_5x8⟩ := (((w1_5).alloc (.cells #[.int .i64 vx0, .int .i64 vy0] 30)).alloc (.cells #[.int .i64 vx1, .int .i64 vy1] 30)).two
  obtain ⟨g0a_5x8, g0b_5x8⟩ := ((Bx.new_ w5 (w5.heap.size) 30 #[.int .i64 vx0, .int .i64 vy0] (by simp)).alloc (.cells #[.int .i64 vx1, .int .i64 vy1] 30)).two
  obtain ⟨g1a_5x8, g1b_5x8⟩ := (Bx.new_ (w5.alloc (.cells #[.int .i64 vx0, .int .i64 vy0] 30)) (w5.heap.size + 1) 30 #[.int .i64 vx1, .int .i64 vy1] (by simp)).two
  go_wp2_with fail
  refine (eqPoint_any _ _ _ _ _).mono ?_
  rintro e w6 ⟨rfl, hb6⟩
  have r0_6 := (((r0_5).alloc (.cells #[.int .i64 vx0, .int .i64 vy0] 30)).alloc (.cells #[.int .i64 vx1, .int .i64 vy1] 30)).below hb6
  have t0_0_6 := (((t0_0_5).alloc (.cells #[.int .i64 vx0, .int .i64 vy0] 30)).alloc (.cells #[.int .i64 vx1, .int .i64 vy1] 30)).below hb6
  have w0_6 := (((w0_5).alloc (.cells #[.int .i64 vx0, .int .i64 vy0] 30)).alloc (.cells #[.int .i64 vx1, .int .i64 vy1] 30)).below hb6
  obtain ⟨w0a_6, w0b_6⟩ := w0_6.two
  have w1_6 := (((w1_5).alloc (.cells #[.int .i64 vx0, .int .i64 vy0] 30)).alloc (.cells #[.int .i64 vx1, .int .i64 vy1] 30)).below hb6
  obtain ⟨w1a_6, w1b_6⟩ := w1_6.two
  have t0_4_6 := (((t0_4_5).alloc (.cells #[.int .i64 vx0, .int .i64 vy0] 30)).alloc (.cells #[.int .i64 vx1, .int .i64 vy1] 30)).below hb6
  have g0_6 := ((Bx.new_ w5 (w5.heap.size) 30 #[.int .i64 vx0, .int .i64 vy0] (by simp)).alloc (.cells #[.int .i64 vx1, .int .i64 vy1] 30)).below hb6
  obtain ⟨g0a_6, g0b_6⟩ := g0_6.two
  have g1_6 := (Bx.new_ (w5.alloc (.cells #[.int .i64 vx0, .int .i64 vy0] 30)) (w5.heap.size + 1) 30 #[.int .i64 vx1, .int .i64 vy1] (by simp)).below hb6
  obtain ⟨g1a_6, g1b_6⟩ := g1_6.two
  have z_6 : ((w5.alloc (.cells #[.int .i64 vx0, .int .i64 vy0] 30)).alloc (.cells #[.int .i64 vx1, .int .i64 vy1] 30)).heap.size ≤ w6.heap.size := hb6.size
  simp only [World.size_alloc] at z_6
  have B_6 := (((B_5).alloc (by first | omega | (simp; omega) | simp) (.cells #[.int .i64 vx0, .int .i64 vy0] 30)).alloc (by first | omega | (simp; omega) | simp) (.cells #[.int .i64 vx1, .int .i64 vy1] 30)).trans (hb6.mono (by first | omega | (simp; omega) | simp))
  go_wp2_with fail
  refine (eqPoint_any _ _ _ _ _).mono ?_
  rintro e w7 ⟨rfl, hb7⟩
  have r0_7 := (r0_6).below hb7
  have t0_0_7 := (t0_0_6).below hb7
  have w0_7 := (w0_6).below hb7
  obtain ⟨w0a_7, w0b_7⟩ := w0_7.two
  have w1_7 := (w1_6).below hb7
  obtain ⟨w1a_7, w1b_7⟩ := w1_7.two
  have t0_4_7 := (t0_4_6).below hb7
  have g0_7 := (g0_6).below hb7
  obtain ⟨g0a_7, g0b_7⟩ := g0_7.two
  have g1_7 := (g1_6).below hb7
  obtain ⟨g1a_7, g1b_7⟩ := g1_7.two
  have z_7 : w6.heap.size ≤ w7.heap.size := hb7.size
  have B_7 := (B_6).trans (hb7.mono (by first | omega | (simp; omega) | simp))
  go_wp2_with fail
  refine (toPointS_any _ _ xs0 _ (r0_7) hn0).mono ?_
  rintro e w8 ⟨E8, f8, rfl, t0_8_8, hb8⟩
  have r0_8 := (r0_7).below hb8
  have t0_0_8 := (t0_0_7).below hb8
  have w0_8 := (w0_7).below hb8
  obtain ⟨w0a_8, w0b_8⟩ := w0_8.two
  have w1_8 := (w1_7).below hb8
  obtain ⟨w1a_8, w1b_8⟩ := w1_8.two
  have t0_4_8 := (t0_4_7).below hb8
  have g0_8 := (g0_7).below hb8
  obtain ⟨g0a_8, g0b_8⟩ := g0_8.two
  have g1_8 := (g1_7).below hb8
  obtain ⟨g1a_8, g1b_8⟩ := g1_8.two
  have z_8 : w7.heap.size ≤ w8.heap.size := hb8.size
  have B_8 := (B_7).trans (hb8.mono (by first | omega | (simp; omega) | simp))
  go_wp2_with fail
  refine (eqPointS_any _ _ _ _ xs0 xs0 _ ((t0_4_8).rd) ((t0_8_8).rd) hn0 hn0).mono ?_
  rintro e w9 ⟨rfl, hb9⟩
  have r0_9 := (r0_8).below hb9
  have t0_0_9 := (t0_0_8).below hb9
  have w0_9 := (w0_8).below hb9
  obtain ⟨w0a_9, w0b_9⟩ := w0_9.two
  have w1_9 := (w1_8).below hb9
  obtain ⟨w1a_9, w1b_9⟩ := w1_9.two
  have t0_4_9 := (t0_4_8).below hb9
  have g0_9 := (g0_8).below hb9
  obtain ⟨g0a_9, g0b_9⟩ := g0_9.two
  have g1_9 := (g1_8).below hb9
  obtain ⟨g1a_9, g1b_9⟩ := g1_9.two
  have t0_8_9 := (t0_8_8).below hb9
  have z_9 : w8.heap.size ≤ w9.heap.size := hb9.size
  have B_9 := (B_8).trans (hb9.mono (by first | omega | (simp; omega) | simp))
  go_wp2_with fail
  go_ret
  exact ⟨rfl, B_9⟩

theorem walk_StrokeBox_of (A0 : Option Addr) (c0 : Nat) (xs0 : List (Int × Int)) (w : World) (hx0 : ArgP w A0 c0 xs0)
    (h : xs0.length ≤ 1048576 → ∃ (vx0 vy0 : Int) (vx1 vy1 : Int) (v2 : Int), (∀ (W : World) (B0 : Option Addr) (d0 : Nat), RP W B0 xs0 → (xs0.length ≤ d0 ∧ d0 ≤ 9223372036854775807) → Calls Try.prog 15 #[.slice B0 xs0.length d0] W (RetV W (.tuple #[.agg #[.int .i64 vx0, .int .i64 vy0], .agg #[.int .i64 vx1, .int .i64 vy1], .int .i64 v2]))) ∧ (∀ (W : World) (B0 : Option Addr) (d0 : Nat), RP W B0 xs0 → (xs0.length ≤ d0 ∧ d0 ≤ 9223372036854775807) → Calls Try.prog 16 #[.slice B0 xs0.length d0] W (RetV W (.tuple #[.agg #[.int .i64 vx0, .int .i64 vy0], .agg #[.int .i64 vx1, .int .i64 vy1], .int .i64 v2])))) :
    Calls Try.prog 4 #[.slice A0 xs0.length c0] w fun e w' => e = .returned (.bool true) ∧ Below w.heap.size w w' := by
  by_cases hs : xs0.length ≤ 1048576
  · obtain ⟨vx0, vy0, vx1, vy1, v2, h1, h2⟩ := h hs
    exact walk_StrokeBox_core A0 c0 xs0 w hx0 hs vx0 vy0 vx1 vy1 v2  h1 h2
  · exact walk_StrokeBox_big0 A0 c0 xs0 w hx0 (by omega)

end Go.Proofs.Ytbleipaekdhdmaa
