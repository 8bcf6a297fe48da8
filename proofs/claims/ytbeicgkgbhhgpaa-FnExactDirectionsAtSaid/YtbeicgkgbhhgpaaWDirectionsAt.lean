/-
  The core of the walk of the law FnExactDirectionsAt: the law answers true wherever the two functions hand back the same. Conditions: the two functions' contracts, given as hypotheses.
-/
import Derived.Test.YtbeicgkgbhhgpaaOpen
import Derived.Test.YtbeicgkgbhhgpaaPanel
import Derived.Test.YtbeicgkgbhhgpaaTr19
import Derived.Deep.DeepCutAuto
import Derived.Deep.RegionHeld3
namespace Go.Proofs.Ytbeicgkgbhhgpaa
open Go.RowKit
set_option linter.unusedVariables false

set_option maxHeartbeats 1000000 in
theorem walk_DirectionsAt_big0 (wd0 ht0 : Int) (A0 : Option Addr) (c0 : Nat) (xs0 : List Int) (a1 : Int) (w : World) (hx0 : ArgI w A0 c0 xs0)  (hno : 1048576 < xs0.length) :
    Calls Try.prog 4 #[.agg #[.int .i64 wd0, .int .i64 ht0, .slice A0 xs0.length c0], .int .i64 a1] w fun e w' => e = .returned (.bool true) ∧ Below w.heap.size w w' := by
  obtain ⟨hl0, hm0, hr0, hi0⟩ := hx0
  go_enter Try.func4, Try.ntmps4
  go_wp2_with fail
  have k0 : (1048576 : Int) < ((xs0.length : Nat) : Int) := by omega
  refine (szPanel_no _ _ _ _ _ _ _ (by omega) k0 (by omega)).mono ?_
  rintro e w1 ⟨rfl, hb1⟩
  have r0_1 := ((hr0).alloc (.cells #[.int .i64 wd0, .int .i64 ht0, .slice A0 xs0.length c0] 24)).below hb1
  have p0_1 := (Bx.new_ w (w.heap.size) 24 #[.int .i64 wd0, .int .i64 ht0, .slice A0 xs0.length c0] (by simp)).below hb1
  obtain ⟨p0a_1, p0b_1, p0c_1⟩ := p0_1.three
  have z_1 : (w.alloc (.cells #[.int .i64 wd0, .int .i64 ht0, .slice A0 xs0.length c0] 24)).heap.size ≤ w1.heap.size := hb1.size
  simp only [World.size_alloc] at z_1
  have B_1 := ((Below.refl w.heap.size w).alloc (by first | omega | (simp; omega) | simp) (.cells #[.int .i64 wd0, .int .i64 ht0, .slice A0 xs0.length c0] 24)).trans (hb1.mono (by first | omega | (simp; omega) | simp))
  go_wp2_with fail
  go_ret
  exact ⟨rfl, B_1⟩

set_option maxRecDepth 20000 in
set_option maxHeartbeats 4000000 in
theorem walk_DirectionsAt_core (wd0 ht0 : Int) (A0 : Option Addr) (c0 : Nat) (xs0 : List Int) (a1 : Int) (w : World) (hx0 : ArgI w A0 c0 xs0) (hsm : xs0.length ≤ 1048576) (qx0 qy0 qu0 qw0 : Int) (qx1 qy1 qu1 qw1 : Int) (v2 : Int) 
    (hspec0 : ∀ (W : World) (B0 : Option Addr) (d0 : Nat), RI W B0 xs0 → (xs0.length ≤ d0 ∧ d0 ≤ 9223372036854775807) → Calls Try.prog 18 #[.agg #[.int .i64 wd0, .int .i64 ht0, .slice B0 xs0.length d0], .int .i64 a1] W (RetV W (.tuple #[.agg #[.int .i64 qx0, .int .i64 qy0, .int .i64 qu0, .int .i64 qw0], .agg #[.int .i64 qx1, .int .i64 qy1, .int .i64 qu1, .int .i64 qw1], .int .i64 v2])))
    (himpl0 : ∀ (W : World) (B0 : Option Addr) (d0 : Nat), RI W B0 xs0 → (xs0.length ≤ d0 ∧ d0 ≤ 9223372036854775807) → Calls Try.prog 19 #[.agg #[.int .i64 wd0, .int .i64 ht0, .slice B0 xs0.length d0], .int .i64 a1] W (RetV W (.tuple #[.agg #[.int .i64 qx0, .int .i64 qy0, .int .i64 qu0, .int .i64 qw0], .agg #[.int .i64 qx1, .int .i64 qy1, .int .i64 qu1, .int .i64 qw1], .int .i64 v2]))) :
    Calls Try.prog 4 #[.agg #[.int .i64 wd0, .int .i64 ht0, .slice A0 xs0.length c0], .int .i64 a1] w fun e w' => e = .returned (.bool true) ∧ Below w.heap.size w w' := by
  obtain ⟨hl0, hm0, hr0, hi0⟩ := hx0
  have hspec := hide hspec0; have himpl := hide himpl0; clear hspec0 himpl0
  have hn0 : xs0.length ≤ 1048576 := by omega
  have hv2 : (v2 != v2) = false := by simp
  go_enter Try.func4, Try.ntmps4
  go_wp2_with fail
  have k_0 : ((xs0.length : Nat) : Int) ≤ 1048576 := by omega
  refine (szPanel_ok _ _ _ _ _ _ _ k_0 (by omega)).mono ?_
  rintro e w1 ⟨rfl, hb1⟩
  have r0_1 := ((hr0).alloc (.cells #[.int .i64 wd0, .int .i64 ht0, .slice A0 xs0.length c0] 24)).below hb1
  have p0_1 := (Bx.new_ w (w.heap.size) 24 #[.int .i64 wd0, .int .i64 ht0, .slice A0 xs0.length c0] (by simp)).below hb1
  obtain ⟨p0a_1, p0b_1, p0c_1⟩ := p0_1.three
  have z_1 : (w.alloc (.cells #[.int .i64 wd0, .int .i64 ht0, .slice A0 xs0.length c0] 24)).heap.size ≤ w1.heap.size := hb1.size
  simp only [World.size_alloc] at z_1
  have B_1 := ((Below.refl w.heap.size w).alloc (by first | omega | (simp; omega) | simp) (.cells #[.int .i64 wd0, .int .i64 ht0, .slice A0 xs0.length c0] 24)).trans (hb1.mono (by first | omega | (simp; omega) | simp))
  have kk_1 : ¬ (1048576 - (xs0.length : Int) < 0) := by omega
  go_wp2_with fail
  refine (toPanel_any _ _ _ _ xs0 _ (r0_1) hn0).mono ?_
  rintro e w2 ⟨E2, f2, rfl, t0_0_2, hb2⟩
  have r0_2 := (r0_1).below hb2
  have p0_2 := (p0_1).below hb2
  obtain ⟨p0a_2, p0b_2, p0c_2⟩ := p0_2.three
  have z_2 : w1.heap.size ≤ w2.heap.size := hb2.size
  have B_2 := (B_1).trans (hb2.mono (by first | omega | (simp; omega) | simp))
  go_wp2_with fail
  refine (hspec.out _ _ _ ((t0_0_2).rd) (t0_0_2).cap_).mono ?_
  rintro e w3 ⟨rfl, hb3⟩
  have r0_3 := (r0_2).below hb3
  have p0_3 := (p0_2).below hb3
  obtain ⟨p0a_3, p0b_3, p0c_3⟩ := p0_3.three
  have t0_0_3 := (t0_0_2).below hb3
  have z_3 : w2.heap.size ≤ w3.heap.size := hb3.size
  have B_3 := (B_2).trans (hb3.mono (by first | omega | (simp; omega) | simp))
  obtain ⟨p0a_3x3, p0b_3x3, p0c_3x3⟩ := ((p0_3).alloc (.cells #[.int .i64 qx0, .int .i64 qy0, .int .i64 qu0, .int .i64 qw0] 35)).three
  obtain ⟨w0a_3x3, w0b_3x3, w0c_3x3, w0d_3x3⟩ := (Bx.new_ w3 (w3.heap.size) 35 #[.int .i64 qx0, .int .i64 qy0, .int .i64 qu0, .int .i64 qw0] (by simp)).four
  obtain ⟨p0a_3x4, p0b_3x4, p0c_3x4⟩ := (((p0_3).alloc (.cells #[.int .i64 qx0, .int .i64 qy0, .int .i64 qu0, .int .i64 qw0] 35)).alloc (.cells #[.int .i64 qx1, .int .i64 qy1, .int .i64 qu1, .int .i64 qw1] 35)).three
  obtain ⟨w0a_3x4, w0b_3x4, w0c_3x4, w0d_3x4⟩ := ((Bx.new_ w3 (w3.heap.size) 35 #[.int .i64 qx0, .int .i64 qy0, .int .i64 qu0, .int .i64 qw0] (by simp)).alloc (.cells #[.int .i64 qx1, .int .i64 qy1, .int .i64 qu1, .int .i64 qw1] 35)).four
  obtain ⟨w1a_3x4, w1b_3x4, w1c_3x4, w1d_3x4⟩ := (Bx.new_ (w3.alloc (.cells #[.int .i64 qx0, .int .i64 qy0, .int .i64 qu0, .int .i64 qw0] 35)) (w3.heap.size + 1) 35 #[.int .i64 qx1, .int .i64 qy1, .int .i64 qu1, .int .i64 qw1] (by simp)).four
  go_wp2_with fail
  refine (toPanel_any _ _ _ _ xs0 _ (((r0_3).alloc (.cells #[.int .i64 qx0, .int .i64 qy0, .int .i64 qu0, .int .i64 qw0] 35)).alloc (.cells #[.int .i64 qx1, .int .i64 qy1, .int .i64 qu1, .int .i64 qw1] 35)) hn0).mono ?_
  rintro e w4 ⟨E4, f4, rfl, t0_4_4, hb4⟩
  have r0_4 := (((r0_3).alloc (.cells #[.int .i64 qx0, .int .i64 qy0, .int .i64 qu0, .int .i64 qw0] 35)).alloc (.cells #[.int .i64 qx1, .int .i64 qy1, .int .i64 qu1, .int .i64 qw1] 35)).below hb4
  have p0_4 := (((p0_3).alloc (.cells #[.int .i64 qx0, .int .i64 qy0, .int .i64 qu0, .int .i64 qw0] 35)).alloc (.cells #[.int .i64 qx1, .int .i64 qy1, .int .i64 qu1, .int .i64 qw1] 35)).below hb4
  obtain ⟨p0a_4, p0b_4, p0c_4⟩ := p0_4.three
  have t0_0_4 := (((t0_0_3).alloc (.cells #[.int .i64 qx0, .int .i64 qy0, .int .i64 qu0, .int .i64 qw0] 35)).alloc (.cells #[.int .i64 qx1, .int .i64 qy1, .int .i64 qu1, .int .i64 qw1] 35)).below hb4
  have w0_4 := ((Bx.new_ w3 (w3.heap.size) 35 #[.int .i64 qx0, .int .i64 qy0, .int .i64 qu0, .int .i64 qw0] (by simp)).alloc (.cells #[.int .i64 qx1, .int .i64 qy1, .int .i64 qu1, .int .i64 qw1] 35)).below hb4
  obtain ⟨w0a_4, w0b_4, w0c_4, w0d_4⟩ := w0_4.four
  have w1_4 := (Bx.new_ (w3.alloc (.cells #[.int .i64 qx0, .int .i64 qy0, .int .i64 qu0, .int .i64 qw0] 35)) (w3.heap.size + 1) 35 #[.int .i64 qx1, .int .i64 qy1, .int .i64 qu1, .int .i64 qw1] (by simp)).below hb4
  obtain ⟨w1a_4, w1b_4, w1c_4, w1d_4⟩ := w1_4.four
  have z_4 : ((w3.alloc (.cells #[.int .i64 qx0, .int .i64 qy0, .int .i64 qu0, .int .i64 qw0] 35)).alloc (.cells #[.int .i64 qx1, .int .i64 qy1, .int .i64 qu1, .int .i64 qw1] 35)).heap.size ≤ w4.heap.size := hb4.size
  simp only [World.size_alloc] at z_4
  have B_4 := (((B_3).alloc (by first | omega | (simp; omega) | simp) (.cells #[.int .i64 qx0, .int .i64 qy0, .int .i64 qu0, .int .i64 qw0] 35)).alloc (by first | omega | (simp; omega) | simp) (.cells #[.int .i64 qx1, .int .i64 qy1, .int .i64 qu1, .int .i64 qw1] 35)).trans (hb4.mono (by first | omega | (simp; omega) | simp))
  obtain ⟨p0a_4x6, p0b_4x6, p0c_4x6⟩ := ((p0_4).alloc (.cells #[.int .i64 wd0, .int .i64 ht0, .slice E4 xs0.length f4] 28)).three
  obtain ⟨w0a_4x6, w0b_4x6, w0c_4x6, w0d_4x6⟩ := ((w0_4).alloc (.cells #[.int .i64 wd0, .int .i64 ht0, .slice E4 xs0.length f4] 28)).four
  obtain ⟨w1a_4x6, w1b_4x6, w1c_4x6, w1d_4x6⟩ := ((w1_4).alloc (.cells #[.int .i64 wd0, .int .i64 ht0, .slice E4 xs0.length f4] 28)).four
  obtain ⟨x0a_4x6, x0b_4x6, x0c_4x6⟩ := (Bx.new_ w4 (w4.heap.size) 28 #[.int .i64 wd0, .int .i64 ht0, .slice E4 xs0.length f4] (by simp)).three
  go_wp2_with fail
  refine (himpl.out _ _ _ (((t0_4_4).alloc (.cells #[.int .i64 wd0, .int .i64 ht0, .slice E4 xs0.length f4] 28)).rd) ((t0_4_4).alloc (.cells #[.int .i64 wd0, .int .i64 ht0, .slice E4 xs0.length f4] 28)).cap_).mono ?_
  rintro e w5 ⟨rfl, hb5⟩
  have r0_5 := ((r0_4).alloc (.cells #[.int .i64 wd0, .int .i64 ht0, .slice E4 xs0.length f4] 28)).below hb5
  have p0_5 := ((p0_4).alloc (.cells #[.int .i64 wd0, .int .i64 ht0, .slice E4 xs0.length f4] 28)).below hb5
  obtain ⟨p0a_5, p0b_5, p0c_5⟩ := p0_5.three
  have t0_0_5 := ((t0_0_4).alloc (.cells #[.int .i64 wd0, .int .i64 ht0, .slice E4 xs0.length f4] 28)).below hb5
  have w0_5 := ((w0_4).alloc (.cells #[.int .i64 wd0, .int .i64 ht0, .slice E4 xs0.length f4] 28)).below hb5
  obtain ⟨w0a_5, w0b_5, w0c_5, w0d_5⟩ := w0_5.four
  have w1_5 := ((w1_4).alloc (.cells #[.int .i64 wd0, .int .i64 ht0, .slice E4 xs0.length f4] 28)).below hb5
  obtain ⟨w1a_5, w1b_5, w1c_5, w1d_5⟩ := w1_5.four
  have t0_4_5 := ((t0_4_4).alloc (.cells #[.int .i64 wd0, .int .i64 ht0, .slice E4 xs0.length f4] 28)).below hb5
  have x0_5 := (Bx.new_ w4 (w4.heap.size) 28 #[.int .i64 wd0, .int .i64 ht0, .slice E4 xs0.length f4] (by simp)).below hb5
  obtain ⟨x0a_5, x0b_5, x0c_5⟩ := x0_5.three
  have z_5 : (w4.alloc (.cells #[.int .i64 wd0, .int .i64 ht0, .slice E4 xs0.length f4] 28)).heap.size ≤ w5.heap.size := hb5.size
  simp only [World.size_alloc] at z_5
  have B_5 := ((B_4).alloc (by first | omega | (simp; omega) | simp) (.cells #[.int .i64 wd0, .int .i64 ht0, .slice E4 xs0.length f4] 28)).trans (hb5.mono (by first | omega | (simp; omega) | simp))
  obtain ⟨p0a_5x8, p0b_5x8, p0c_5x8⟩ := ((p0_5).alloc (.cells #[.int .i64 qx0, .int .i64 qy0, .int .i64 qu0, .int .i64 qw0] 35)).three
  obtain ⟨w0a_5x8, w0b_5x8, w0c_5x8, w0d_5x8⟩ := ((w0_5).alloc (.cells #[.int .i64 qx0, .int .i64 qy0, .int .i64 qu0, .int .i64 qw0] 35)).four
  obtain ⟨w1a_5x8, w1b_5x8, w1c_5x8, w1d_5x8⟩ := ((w1_5).alloc (.cells #[.int .i64 qx0, .int .i64 qy0, .int .i64 qu0, .int .i64 qw0] 35)).four
  obtain ⟨x0a_5x8, x0b_5x8, x0c_5x8⟩ := ((x0_5).alloc (.cells #[.int .i64 qx0, .int .i64 qy0, .int .i64 qu0, .int .i64 qw0] 35)).three
  obtain ⟨g0a_5x8, g0b_5x8, g0c_5x8, g0d_5x8⟩ := (Bx.new_ w5 (w5.heap.size) 35 #[.int .i64 qx0, .int .i64 qy0, .int .i64 qu0, .int .i64 qw0] (by simp)).four
  obtain ⟨p0a_5x9, p0b_5x9, p0c_5x9⟩ := (((p0_5).alloc (.cells #[.int .i64 qx0, .int .i64 qy0, .int .i64 qu0, .int .i64 qw0] 35)).alloc (.cells #[.int .i64 qx1, .int .i64 qy1, .int .i64 qu1, .int .i64 qw1] 35)).three
  obtain ⟨w0a_5x9, w0b_5x9, w0c_5x9, w0d_5x9⟩ := (((w0_5).alloc (.cells #[.int .i64 qx0, .int .i64 qy0, .int .i64 qu0, .int .i64 qw0] 35)).alloc (.cells #[.int .i64 qx1, .int .i64 qy1, .int .i64 qu1, .int .i64 qw1] 35)).four
  obtain ⟨w1a_5x9, w1b_5x9, w1c_5x9, w1d_5x9⟩ := (((w1_5).alloc (.cells #[.int .i64 qx0, .int .i64 qy0, .int .i64 qu0, .int .i64 qw0] 35)).alloc (.cells #[.int .i64 qx1, .int .i64 qy1, .int .i64 qu1, .int .i64 qw1] 35)).four
  obtain ⟨x0a_5x9, x0b_5x9, x0c_5x9⟩ := (((x0_5).alloc (.cells #[.int .i64 qx0, .int .i64 qy0, .int .i64 qu0, .int .i64 qw0] 35)).alloc (.cells #[.int .i64 qx1, .int .i64 qy1, .int .i64 qu1, .int .i64 qw1] 35)).three
  obtain ⟨g0a_5x9, g0b_5x9, g0c_5x9, g0d_5x9⟩ := ((Bx.new_ w5 (w5.heap.size) 35 #[.int .i64 qx0, .int .i64 qy0, .int .i64 qu0, .int .i64 qw0] (by simp)).alloc (.cells #[.int .i64 qx1, .int .i64 qy1, .int .i64 qu1, .int .i64 qw1] 35)).four
  obtain ⟨g1a_5x9, g1b_5x9, g1c_5x9, g1d_5x9⟩ := (Bx.new_ (w5.alloc (.cells #[.int .i64 qx0, .int .i64 qy0, .int .i64 qu0, .int .i64 qw0] 35)) (w5.heap.size + 1) 35 #[.int .i64 qx1, .int .i64 qy1, .int .i64 qu1, .int .i64 qw1] (by simp)).four
  go_wp2_with fail
  refine (eqWalker_same _ _ _ _ _).mono ?_
  rintro e w6 ⟨rfl, hb6⟩
  have r0_6 := (((r0_5).alloc (.cells #[.int .i64 qx0, .int .i64 qy0, .int .i64 qu0, .int .i64 qw0] 35)).alloc (.cells #[.int .i64 qx1, .int .i64 qy1, .int .i64 qu1, .int .i64 qw1] 35)).below hb6
  have p0_6 := (((p0_5).alloc (.cells #[.int .i64 qx0, .int .i64 qy0, .int .i64 qu0, .int .i64 qw0] 35)).alloc (.cells #[.int .i64 qx1, .int .i64 qy1, .int .i64 qu1, .int .i64 qw1] 35)).below hb6
  obtain ⟨p0a_6, p0b_6, p0c_6⟩ := p0_6.three
  have t0_0_6 := (((t0_0_5).alloc (.cells #[.int .i64 qx0, .int .i64 qy0, .int .i64 qu0, .int .i64 qw0] 35)).alloc (.cells #[.int .i64 qx1, .int .i64 qy1, .int .i64 qu1, .int .i64 qw1] 35)).below hb6
  have w0_6 := (((w0_5).alloc (.cells #[.int .i64 qx0, .int .i64 qy0, .int .i64 qu0, .int .i64 qw0] 35)).alloc (.cells #[.int .i64 qx1, .int .i64 qy1, .int .i64 qu1, .int .i64 qw1] 35)).below hb6
  obtain ⟨w0a_6, w0b_6, w0c_6, w0d_6⟩ := w0_6.four
  have w1_6 := (((w1_5).alloc (.cells #[.int .i64 qx0, .int .i64 qy0, .int .i64 qu0, .int .i64 qw0] 35)).alloc (.cells #[.int .i64 qx1, .int .i64 qy1, .int .i64 qu1, .int .i64 qw1] 35)).below hb6
  obtain ⟨w1a_6, w1b_6, w1c_6, w1d_6⟩ := w1_6.four
  have t0_4_6 := (((t0_4_5).alloc (.cells #[.int .i64 qx0, .int .i64 qy0, .int .i64 qu0, .int .i64 qw0] 35)).alloc (.cells #[.int .i64 qx1, .int .i64 qy1, .int .i64 qu1, .int .i64 qw1] 35)).below hb6
  have x0_6 := (((x0_5).alloc (.cells #[.int .i64 qx0, .int .i64 qy0, .int .i64 qu0, .int .i64 qw0] 35)).alloc (.cells #[.int .i64 qx1, .int .i64 qy1, .int .i64 qu1, .int .i64 qw1] 35)).below hb6
  obtain ⟨x0a_6, x0b_6, x0c_6⟩ := x0_6.three
  have g0_6 := ((Bx.new_ w5 (w5.heap.size) 35 #[.int .i64 qx0, .int .i64 qy0, .int .i64 qu0, .int .i64 qw0] (by simp)).alloc (.cells #[.int .i64 qx1, .int .i64 qy1, .int .i64 qu1, .int .i64 qw1] 35)).below hb6
  obtain ⟨g0a_6, g0b_6, g0c_6, g0d_6⟩ := g0_6.four
  have g1_6 := (Bx.new_ (w5.alloc (.cells #[.int .i64 qx0, .int .i64 qy0, .int .i64 qu0, .int .i64 qw0] 35)) (w5.heap.size + 1) 35 #[.int .i64 qx1, .int .i64 qy1, .int .i64 qu1, .int .i64 qw1] (by simp)).below hb6
  obtain ⟨g1a_6, g1b_6, g1c_6, g1d_6⟩ := g1_6.four
  have z_6 : ((w5.alloc (.cells #[.int .i64 qx0, .int .i64 qy0, .int .i64 qu0, .int .i64 qw0] 35)).alloc (.cells #[.int .i64 qx1, .int .i64 qy1, .int .i64 qu1, .int .i64 qw1] 35)).heap.size ≤ w6.heap.size := hb6.size
  simp only [World.size_alloc] at z_6
  have B_6 := (((B_5).alloc (by first | omega | (simp; omega) | simp) (.cells #[.int .i64 qx0, .int .i64 qy0, .int .i64 qu0, .int .i64 qw0] 35)).alloc (by first | omega | (simp; omega) | simp) (.cells #[.int .i64 qx1, .int .i64 qy1, .int .i64 qu1, .int .i64 qw1] 35)).trans (hb6.mono (by first | omega | (simp; omega) | simp))
  go_wp2_with fail
  refine (eqWalker_same _ _ _ _ _).mono ?_
  rintro e w7 ⟨rfl, hb7⟩
  have r0_7 := (r0_6).below hb7
  have p0_7 := (p0_6).below hb7
  obtain ⟨p0a_7, p0b_7, p0c_7⟩ := p0_7.three
  have t0_0_7 := (t0_0_6).below hb7
  have w0_7 := (w0_6).below hb7
  obtain ⟨w0a_7, w0b_7, w0c_7, w0d_7⟩ := w0_7.four
  have w1_7 := (w1_6).below hb7
  obtain ⟨w1a_7, w1b_7, w1c_7, w1d_7⟩ := w1_7.four
  have t0_4_7 := (t0_4_6).below hb7
  have x0_7 := (x0_6).below hb7
  obtain ⟨x0a_7, x0b_7, x0c_7⟩ := x0_7.three
  have g0_7 := (g0_6).below hb7
  obtain ⟨g0a_7, g0b_7, g0c_7, g0d_7⟩ := g0_7.four
  have g1_7 := (g1_6).below hb7
  obtain ⟨g1a_7, g1b_7, g1c_7, g1d_7⟩ := g1_7.four
  have z_7 : w6.heap.size ≤ w7.heap.size := hb7.size
  have B_7 := (B_6).trans (hb7.mono (by first | omega | (simp; omega) | simp))
  go_wp2_with fail
  go_region_held3 (fun w' => w'.cell? ⟨w.heap.size, 0, none⟩ = some (.int .i64 wd0) ∧ w'.cell? ⟨w.heap.size, 1, none⟩ = some (.int .i64 ht0) ∧ w'.cell? ⟨w.heap.size, 2, none⟩ = some (.slice A0 xs0.length c0) ∧ w'.cell? ⟨w3.heap.size, 0, none⟩ = some (.int .i64 qx0) ∧ w'.cell? ⟨w3.heap.size, 1, none⟩ = some (.int .i64 qy0) ∧ w'.cell? ⟨w3.heap.size, 2, none⟩ = some (.int .i64 qu0) ∧ w'.cell? ⟨w3.heap.size, 3, none⟩ = some (.int .i64 qw0) ∧ w'.cell? ⟨w3.heap.size + 1, 0, none⟩ = some (.int .i64 qx1) ∧ w'.cell? ⟨w3.heap.size + 1, 1, none⟩ = some (.int .i64 qy1) ∧ w'.cell? ⟨w3.heap.size + 1, 2, none⟩ = some (.int .i64 qu1) ∧ w'.cell? ⟨w3.heap.size + 1, 3, none⟩ = some (.int .i64 qw1) ∧ w'.cell? ⟨w4.heap.size, 0, none⟩ = some (.int .i64 wd0) ∧ w'.cell? ⟨w4.heap.size, 1, none⟩ = some (.int .i64 ht0) ∧ w'.cell? ⟨w4.heap.size, 2, none⟩ = some (.slice E4 xs0.length f4) ∧ w'.cell? ⟨w5.heap.size, 0, none⟩ = some (.int .i64 qx0) ∧ w'.cell? ⟨w5.heap.size, 1, none⟩ = some (.int .i64 qy0) ∧ w'.cell? ⟨w5.heap.size, 2, none⟩ = some (.int .i64 qu0) ∧ w'.cell? ⟨w5.heap.size, 3, none⟩ = some (.int .i64 qw0) ∧ w'.cell? ⟨w5.heap.size + 1, 0, none⟩ = some (.int .i64 qx1) ∧ w'.cell? ⟨w5.heap.size + 1, 1, none⟩ = some (.int .i64 qy1) ∧ w'.cell? ⟨w5.heap.size + 1, 2, none⟩ = some (.int .i64 qu1) ∧ w'.cell? ⟨w5.heap.size + 1, 3, none⟩ = some (.int .i64 qw1)) (first | exact ⟨p0a_7, p0b_7, p0c_7, w0a_7, w0b_7, w0c_7, w0d_7, w1a_7, w1b_7, w1c_7, w1d_7, x0a_7, x0b_7, x0c_7, g0a_7, g0b_7, g0c_7, g0d_7, g1a_7, g1b_7, g1c_7, g1d_7⟩ | exact ⟨p0a_8, p0b_8, p0c_8, w0a_8, w0b_8, w0c_8, w0d_8, w1a_8, w1b_8, w1c_8, w1d_8, x0a_8, x0b_8, x0c_8, g0a_8, g0b_8, g0c_8, g0d_8, g1a_8, g1b_8, g1c_8, g1d_8⟩ | exact ⟨p0a_9, p0b_9, p0c_9, w0a_9, w0b_9, w0c_9, w0d_9, w1a_9, w1b_9, w1c_9, w1d_9, x0a_9, x0b_9, x0c_9, g0a_9, g0b_9, g0c_9, g0d_9, g1a_9, g1b_9, g1c_9, g1d_9⟩ | exact ⟨((p0_9).alloc _).three.1, ((p0_9).alloc _).three.2.1, ((p0_9).alloc _).three.2.2, ((w0_9).alloc _).four.1, ((w0_9).alloc _).four.2.1, ((w0_9).alloc _).four.2.2.1, ((w0_9).alloc _).four.2.2.2, ((w1_9).alloc _).four.1, ((w1_9).alloc _).four.2.1, ((w1_9).alloc _).four.2.2.1, ((w1_9).alloc _).four.2.2.2, ((x0_9).alloc _).three.1, ((x0_9).alloc _).three.2.1, ((x0_9).alloc _).three.2.2, ((g0_9).alloc _).four.1, ((g0_9).alloc _).four.2.1, ((g0_9).alloc _).four.2.2.1, ((g0_9).alloc _).four.2.2.2, ((g1_9).alloc _).four.1, ((g1_9).alloc _).four.2.1, ((g1_9).alloc _).four.2.2.1, ((g1_9).alloc _).four.2.2.2⟩) (first | (go_at_call 15; refine (toPanel_any _ _ _ _ xs0 _ ((r0_7).drew) hn0).mono ?_; rintro e w8 ⟨E8, f8, rfl, t0_9_8, hb8⟩; have r0_8 := ((r0_7).drew).below hb8; have p0_8 := ((p0_7).drew).below hb8; obtain ⟨p0a_8, p0b_8, p0c_8⟩ := p0_8.three; have t0_0_8 := ((t0_0_7).drew).below hb8; have w0_8 := ((w0_7).drew).below hb8; obtain ⟨w0a_8, w0b_8, w0c_8, w0d_8⟩ := w0_8.four; have w1_8 := ((w1_7).drew).below hb8; obtain ⟨w1a_8, w1b_8, w1c_8, w1d_8⟩ := w1_8.four; have t0_4_8 := ((t0_4_7).drew).below hb8; have x0_8 := ((x0_7).drew).below hb8; obtain ⟨x0a_8, x0b_8, x0c_8⟩ := x0_8.three; have g0_8 := ((g0_7).drew).below hb8; obtain ⟨g0a_8, g0b_8, g0c_8, g0d_8⟩ := g0_8.four; have g1_8 := ((g1_7).drew).below hb8; obtain ⟨g1a_8, g1b_8, g1c_8, g1d_8⟩ := g1_8.four; have z_8 : w7.drew.heap.size ≤ w8.heap.size := hb8.size; simp only [World.size_drew] at z_8; have B_8 := ((B_7).drew).trans (hb8.mono (by first | omega | (simp; omega) | simp))) | (go_at_call 17; refine (eqPanel_any _ _ _ _ _ _ _ _ xs0 xs0 _ ((t0_4_8).rd) ((t0_9_8).rd) hn0 hn0).mono ?_; rintro e w9 ⟨rfl, hb9⟩; have r0_9 := (r0_8).below hb9; have p0_9 := (p0_8).below hb9; obtain ⟨p0a_9, p0b_9, p0c_9⟩ := p0_9.three; have t0_0_9 := (t0_0_8).below hb9; have w0_9 := (w0_8).below hb9; obtain ⟨w0a_9, w0b_9, w0c_9, w0d_9⟩ := w0_9.four; have w1_9 := (w1_8).below hb9; obtain ⟨w1a_9, w1b_9, w1c_9, w1d_9⟩ := w1_9.four; have t0_4_9 := (t0_4_8).below hb9; have x0_9 := (x0_8).below hb9; obtain ⟨x0a_9, x0b_9, x0c_9⟩ := x0_9.three; have g0_9 := (g0_8).below hb9; obtain ⟨g0a_9, g0b_9, g0c_9, g0d_9⟩ := g0_9.four; have g1_9 := (g1_8).below hb9; obtain ⟨g1a_9, g1b_9, g1c_9, g1d_9⟩ := g1_9.four; have t0_9_9 := (t0_9_8).below hb9; have z_9 : w8.heap.size ≤ w9.heap.size := hb9.size; have B_9 := (B_8).trans (hb9.mono (by first | omega | (simp; omega) | simp))))
  go_wp2_with fail
  go_ret
  exact ⟨rfl, B_9⟩

theorem walk_DirectionsAt_of (wd0 ht0 : Int) (A0 : Option Addr) (c0 : Nat) (xs0 : List Int) (a1 : Int) (w : World) (hx0 : ArgI w A0 c0 xs0)
    (h : xs0.length ≤ 1048576 → ∃ (qx0 qy0 qu0 qw0 : Int) (qx1 qy1 qu1 qw1 : Int) (v2 : Int), (∀ (W : World) (B0 : Option Addr) (d0 : Nat), RI W B0 xs0 → (xs0.length ≤ d0 ∧ d0 ≤ 9223372036854775807) → Calls Try.prog 18 #[.agg #[.int .i64 wd0, .int .i64 ht0, .slice B0 xs0.length d0], .int .i64 a1] W (RetV W (.tuple #[.agg #[.int .i64 qx0, .int .i64 qy0, .int .i64 qu0, .int .i64 qw0], .agg #[.int .i64 qx1, .int .i64 qy1, .int .i64 qu1, .int .i64 qw1], .int .i64 v2]))) ∧ (∀ (W : World) (B0 : Option Addr) (d0 : Nat), RI W B0 xs0 → (xs0.length ≤ d0 ∧ d0 ≤ 9223372036854775807) → Calls Try.prog 19 #[.agg #[.int .i64 wd0, .int .i64 ht0, .slice B0 xs0.length d0], .int .i64 a1] W (RetV W (.tuple #[.agg #[.int .i64 qx0, .int .i64 qy0, .int .i64 qu0, .int .i64 qw0], .agg #[.int .i64 qx1, .int .i64 qy1, .int .i64 qu1, .int .i64 qw1], .int .i64 v2])))) :
    Calls Try.prog 4 #[.agg #[.int .i64 wd0, .int .i64 ht0, .slice A0 xs0.length c0], .int .i64 a1] w fun e w' => e = .returned (.bool true) ∧ Below w.heap.size w w' := by
  by_cases hs : xs0.length ≤ 1048576
  · obtain ⟨qx0, qy0, qu0, qw0, qx1, qy1, qu1, qw1, v2, h1, h2⟩ := h hs
    exact walk_DirectionsAt_core wd0 ht0 A0 c0 xs0 a1 w hx0 hs qx0 qy0 qu0 qw0 qx1 qy1 qu1 qw1 v2  h1 h2
  · exact walk_DirectionsAt_big0 wd0 ht0 A0 c0 xs0 a1 w hx0 (by omega)

end Go.Proofs.Ytbeicgkgbhhgpaa
