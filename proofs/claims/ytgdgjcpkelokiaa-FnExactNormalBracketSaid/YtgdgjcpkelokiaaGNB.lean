/-
  The core of the walk of the law FnExactNormalBracket: the law answers true wherever the two functions hand back the same. Conditions: the two functions' contracts, given as hypotheses.
  The walk of the law NormalBracket: the core met with the contracts. Conditions: none.
-/
import Derived.Test.YtgdgjcpkelokiaaOpen
import Derived.Test.YtgdgjcpkelokiaaPanel
import Derived.Test.YtgdgjcpkelokiaaHeldP
import Derived.Test.YtgdgjcpkelokiaaPolyTrim
import Derived.Deep.DeepCutAuto
import Derived.Deep.RegionHeld3
import Derived.Test.YtgdgjcpkelokiaaBrN
namespace Go.Proofs.Ytgdgjcpkelokiaa
open Go.RowKit
set_option linter.unusedVariables false

set_option maxHeartbeats 1000000 in
theorem walk_NormalBracket_big0 (wd0 ht0 : Int) (A0 : Option Addr) (c0 : Nat) (xs0 : List Int) (w : World) (hx0 : ArgI w A0 c0 xs0)  (hno : 1048576 < xs0.length) :
    Calls Try.prog 5 #[.agg #[.int .i64 wd0, .int .i64 ht0, .slice A0 xs0.length c0]] w fun e w' => e = .returned (.bool true) ∧ Below w.heap.size w w' := by
  obtain ⟨hl0, hm0, hr0, hi0⟩ := hx0
  go_enter Try.func5, Try.ntmps5
  go_wp2_with fail
  have k0 : (1048576 : Int) < ((xs0.length : Nat) : Int) := by omega
  refine (szPanel_no _ _ _ _ _ _ _ (by omega) k0 (by omega)).mono ?_
  rintro e w1 ⟨rfl, hb1⟩
  have r0_1 := ((hr0).alloc (.cells #[.int .i64 wd0, .int .i64 ht0, .slice A0 xs0.length c0] 24)).below hb1
  have p0_1 := (Bx.new_ w (w.heap.size) 24 #[.int .i64 wd0, .int .i64 ht0, .slice A0 xs0.length c0] (by simp)).below hb1
  obtain ⟨p0a_1, p0b_1, p0c_1⟩ := p0_1.three
  have z_1 : (w.alloc (.cells #[.int .i64 wd0, .int .i64 ht0, .slice A0 xs0.length c0] 24)).heap.size ≤ w1.heap.size := hb1.size
  simp only [World.size_alloc] at z_1
  have B_1 := ((Below.refl w.heap.size w).alloc (by first | omega | (simp; omega) | simp) (.cells #[.int .i64 wd0, .int .i64 ht0, .slice A0 xs0.length c0] 24)).trans (hb1.mono (by first | omega | (simp; omega) | simp))
  go_wp2_with fail
  go_ret
  exact ⟨rfl, B_1⟩

set_option maxRecDepth 20000 in
set_option maxHeartbeats 4000000 in
theorem walk_NormalBracket_core (wd0 ht0 : Int) (A0 : Option Addr) (c0 : Nat) (xs0 : List Int) (w : World) (hx0 : ArgI w A0 c0 xs0) (hsm : xs0.length ≤ 1048576) (L0 : Int) (X0 : List Int) (v1 : Int) (hX0 : X0.length ≤ 1048576)
    (hspec0 : ∀ (W : World) (B0 : Option Addr) (d0 : Nat), RI W B0 xs0 → (xs0.length ≤ d0 ∧ d0 ≤ 9223372036854775807) → Calls Try.prog 18 #[.agg #[.int .i64 wd0, .int .i64 ht0, .slice B0 xs0.length d0]] W (RetPC W L0 X0 v1))
    (himpl0 : ∀ (W : World) (B0 : Option Addr) (d0 : Nat), RI W B0 xs0 → (xs0.length ≤ d0 ∧ d0 ≤ 9223372036854775807) → Calls Try.prog 19 #[.agg #[.int .i64 wd0, .int .i64 ht0, .slice B0 xs0.length d0]] W (RetPC W L0 X0 v1)) :
    Calls Try.prog 5 #[.agg #[.int .i64 wd0, .int .i64 ht0, .slice A0 xs0.length c0]] w fun e w' => e = .returned (.bool true) ∧ Below w.heap.size w w' := by
  obtain ⟨hl0, hm0, hr0, hi0⟩ := hx0
  have hspec := hide hspec0; have himpl := hide himpl0; clear hspec0 himpl0
  have hn0 : xs0.length ≤ 1048576 := by omega
  have hv1 : (v1 != v1) = false := by simp
  go_enter Try.func5, Try.ntmps5
  go_wp2_with fail
  have k_0 : ((xs0.length : Nat) : Int) ≤ 1048576 := by omega
  refine (szPanel_ok _ _ _ _ _ _ _ k_0 (by omega)).mono ?_
  rintro e w1 ⟨rfl, hb1⟩
  have r0_1 := ((hr0).alloc (.cells #[.int .i64 wd0, .int .i64 ht0, .slice A0 xs0.length c0] 24)).below hb1
  have p0_1 := (Bx.new_ w (w.heap.size) 24 #[.int .i64 wd0, .int .i64 ht0, .slice A0 xs0.length c0] (by simp)).below hb1
  obtain ⟨p0a_1, p0b_1, p0c_1⟩ := p0_1.three
  have z_1 : (w.alloc (.cells #[.int .i64 wd0, .int .i64 ht0, .slice A0 xs0.length c0] 24)).heap.size ≤ w1.heap.size := hb1.size
  simp only [World.size_alloc] at z_1
  have B_1 := ((Below.refl w.heap.size w).alloc (by first | omega | (simp; omega) | simp) (.cells #[.int .i64 wd0, .int .i64 ht0, .slice A0 xs0.length c0] 24)).trans (hb1.mono (by first | omega | (simp; omega) | simp))
  have kk_1 : ¬ (1048576 - (xs0.length : Int) < 0) := by omega
  go_wp2_with fail
  refine (toPanel_any _ _ _ _ xs0 _ (r0_1) hn0).mono ?_
  rintro e w2 ⟨E2, f2, rfl, t0_0_2, hb2⟩
  have r0_2 := (r0_1).below hb2
  have p0_2 := (p0_1).below hb2
  obtain ⟨p0a_2, p0b_2, p0c_2⟩ := p0_2.three
  have z_2 : w1.heap.size ≤ w2.heap.size := hb2.size
  have B_2 := (B_1).trans (hb2.mono (by first | omega | (simp; omega) | simp))
  go_wp2_with fail
  refine (hspec.out _ _ _ ((t0_0_2).rd) (t0_0_2).cap_).mono ?_
  rintro e w3 ⟨E3, f3, rfl, g_1_3, hb3⟩
  have r0_3 := (r0_2).below hb3
  have p0_3 := (p0_2).below hb3
  obtain ⟨p0a_3, p0b_3, p0c_3⟩ := p0_3.three
  have t0_0_3 := (t0_0_2).below hb3
  have z_3 : w2.heap.size ≤ w3.heap.size := hb3.size
  have B_3 := (B_2).trans (hb3.mono (by first | omega | (simp; omega) | simp))
  obtain ⟨p0a_3x3, p0b_3x3, p0c_3x3⟩ := ((p0_3).alloc (.cells #[.int .i64 L0, .slice E3 X0.length f3] 34)).three
  obtain ⟨w0a_3x3, w0b_3x3⟩ := (Bx.new_ w3 (w3.heap.size) 34 #[.int .i64 L0, .slice E3 X0.length f3] (by simp)).two
  go_wp2_with fail
  refine (toPanel_any _ _ _ _ xs0 _ ((r0_3).alloc (.cells #[.int .i64 L0, .slice E3 X0.length f3] 34)) hn0).mono ?_
  rintro e w4 ⟨E4, f4, rfl, t0_3_4, hb4⟩
  have r0_4 := ((r0_3).alloc (.cells #[.int .i64 L0, .slice E3 X0.length f3] 34)).below hb4
  have p0_4 := ((p0_3).alloc (.cells #[.int .i64 L0, .slice E3 X0.length f3] 34)).below hb4
  obtain ⟨p0a_4, p0b_4, p0c_4⟩ := p0_4.three
  have t0_0_4 := ((t0_0_3).alloc (.cells #[.int .i64 L0, .slice E3 X0.length f3] 34)).below hb4
  have g_1_4 := ((g_1_3).alloc (.cells #[.int .i64 L0, .slice E3 X0.length f3] 34)).below hb4
  have w0_4 := (Bx.new_ w3 (w3.heap.size) 34 #[.int .i64 L0, .slice E3 X0.length f3] (by simp)).below hb4
  obtain ⟨w0a_4, w0b_4⟩ := w0_4.two
  have z_4 : (w3.alloc (.cells #[.int .i64 L0, .slice E3 X0.length f3] 34)).heap.size ≤ w4.heap.size := hb4.size
  simp only [World.size_alloc] at z_4
  have B_4 := ((B_3).alloc (by first | omega | (simp; omega) | simp) (.cells #[.int .i64 L0, .slice E3 X0.length f3] 34)).trans (hb4.mono (by first | omega | (simp; omega) | simp))
  obtain ⟨p0a_4x5, p0b_4x5, p0c_4x5⟩ := ((p0_4).alloc (.cells #[.int .i64 wd0, .int .i64 ht0, .slice E4 xs0.length f4] 26)).three
  obtain ⟨w0a_4x5, w0b_4x5⟩ := ((w0_4).alloc (.cells #[.int .i64 wd0, .int .i64 ht0, .slice E4 xs0.length f4] 26)).two
  obtain ⟨x0a_4x5, x0b_4x5, x0c_4x5⟩ := (Bx.new_ w4 (w4.heap.size) 26 #[.int .i64 wd0, .int .i64 ht0, .slice E4 xs0.length f4] (by simp)).three
  go_wp2_with fail
  refine (himpl.out _ _ _ (((t0_3_4).alloc (.cells #[.int .i64 wd0, .int .i64 ht0, .slice E4 xs0.length f4] 26)).rd) ((t0_3_4).alloc (.cells #[.int .i64 wd0, .int .i64 ht0, .slice E4 xs0.length f4] 26)).cap_).mono ?_
  rintro e w5 ⟨E5, f5, rfl, g_5_5, hb5⟩
  have r0_5 := ((r0_4).alloc (.cells #[.int .i64 wd0, .int .i64 ht0, .slice E4 xs0.length f4] 26)).below hb5
  have p0_5 := ((p0_4).alloc (.cells #[.int .i64 wd0, .int .i64 ht0, .slice E4 xs0.length f4] 26)).below hb5
  obtain ⟨p0a_5, p0b_5, p0c_5⟩ := p0_5.three
  have t0_0_5 := ((t0_0_4).alloc (.cells #[.int .i64 wd0, .int .i64 ht0, .slice E4 xs0.length f4] 26)).below hb5
  have g_1_5 := ((g_1_4).alloc (.cells #[.int .i64 wd0, .int .i64 ht0, .slice E4 xs0.length f4] 26)).below hb5
  have w0_5 := ((w0_4).alloc (.cells #[.int .i64 wd0, .int .i64 ht0, .slice E4 xs0.length f4] 26)).below hb5
  obtain ⟨w0a_5, w0b_5⟩ := w0_5.two
  have t0_3_5 := ((t0_3_4).alloc (.cells #[.int .i64 wd0, .int .i64 ht0, .slice E4 xs0.length f4] 26)).below hb5
  have x0_5 := (Bx.new_ w4 (w4.heap.size) 26 #[.int .i64 wd0, .int .i64 ht0, .slice E4 xs0.length f4] (by simp)).below hb5
  obtain ⟨x0a_5, x0b_5, x0c_5⟩ := x0_5.three
  have z_5 : (w4.alloc (.cells #[.int .i64 wd0, .int .i64 ht0, .slice E4 xs0.length f4] 26)).heap.size ≤ w5.heap.size := hb5.size
  simp only [World.size_alloc] at z_5
  have B_5 := ((B_4).alloc (by first | omega | (simp; omega) | simp) (.cells #[.int .i64 wd0, .int .i64 ht0, .slice E4 xs0.length f4] 26)).trans (hb5.mono (by first | omega | (simp; omega) | simp))
  obtain ⟨p0a_5x7, p0b_5x7, p0c_5x7⟩ := ((p0_5).alloc (.cells #[.int .i64 L0, .slice E5 X0.length f5] 34)).three
  obtain ⟨w0a_5x7, w0b_5x7⟩ := ((w0_5).alloc (.cells #[.int .i64 L0, .slice E5 X0.length f5] 34)).two
  obtain ⟨x0a_5x7, x0b_5x7, x0c_5x7⟩ := ((x0_5).alloc (.cells #[.int .i64 L0, .slice E5 X0.length f5] 34)).three
  obtain ⟨g0a_5x7, g0b_5x7⟩ := (Bx.new_ w5 (w5.heap.size) 34 #[.int .i64 L0, .slice E5 X0.length f5] (by simp)).two
  go_wp2_with fail
  refine (eqPoly_any _ _ _ _ _ _ X0 X0 _ (((g_5_5).alloc (.cells #[.int .i64 L0, .slice E5 X0.length f5] 34)).rd) (((g_1_5).alloc (.cells #[.int .i64 L0, .slice E5 X0.length f5] 34)).rd) hX0 hX0).mono ?_
  rintro e w6 ⟨rfl, hb6⟩
  have r0_6 := ((r0_5).alloc (.cells #[.int .i64 L0, .slice E5 X0.length f5] 34)).below hb6
  have p0_6 := ((p0_5).alloc (.cells #[.int .i64 L0, .slice E5 X0.length f5] 34)).below hb6
  obtain ⟨p0a_6, p0b_6, p0c_6⟩ := p0_6.three
  have t0_0_6 := ((t0_0_5).alloc (.cells #[.int .i64 L0, .slice E5 X0.length f5] 34)).below hb6
  have g_1_6 := ((g_1_5).alloc (.cells #[.int .i64 L0, .slice E5 X0.length f5] 34)).below hb6
  have w0_6 := ((w0_5).alloc (.cells #[.int .i64 L0, .slice E5 X0.length f5] 34)).below hb6
  obtain ⟨w0a_6, w0b_6⟩ := w0_6.two
  have t0_3_6 := ((t0_3_5).alloc (.cells #[.int .i64 L0, .slice E5 X0.length f5] 34)).below hb6
  have x0_6 := ((x0_5).alloc (.cells #[.int .i64 L0, .slice E5 X0.length f5] 34)).below hb6
  obtain ⟨x0a_6, x0b_6, x0c_6⟩ := x0_6.three
  have g_5_6 := ((g_5_5).alloc (.cells #[.int .i64 L0, .slice E5 X0.length f5] 34)).below hb6
  have g0_6 := (Bx.new_ w5 (w5.heap.size) 34 #[.int .i64 L0, .slice E5 X0.length f5] (by simp)).below hb6
  obtain ⟨g0a_6, g0b_6⟩ := g0_6.two
  have z_6 : (w5.alloc (.cells #[.int .i64 L0, .slice E5 X0.length f5] 34)).heap.size ≤ w6.heap.size := hb6.size
  simp only [World.size_alloc] at z_6
  have B_6 := ((B_5).alloc (by first | omega | (simp; omega) | simp) (.cells #[.int .i64 L0, .slice E5 X0.length f5] 34)).trans (hb6.mono (by first | omega | (simp; omega) | simp))
  go_wp2_with fail
  go_region_held3 (fun w' => w'.cell? ⟨w.heap.size, 0, none⟩ = some (.int .i64 wd0) ∧ w'.cell? ⟨w.heap.size, 1, none⟩ = some (.int .i64 ht0) ∧ w'.cell? ⟨w.heap.size, 2, none⟩ = some (.slice A0 xs0.length c0) ∧ w'.cell? ⟨w3.heap.size, 0, none⟩ = some (.int .i64 L0) ∧ w'.cell? ⟨w3.heap.size, 1, none⟩ = some (.slice E3 X0.length f3) ∧ w'.cell? ⟨w4.heap.size, 0, none⟩ = some (.int .i64 wd0) ∧ w'.cell? ⟨w4.heap.size, 1, none⟩ = some (.int .i64 ht0) ∧ w'.cell? ⟨w4.heap.size, 2, none⟩ = some (.slice E4 xs0.length f4) ∧ w'.cell? ⟨w5.heap.size, 0, none⟩ = some (.int .i64 L0) ∧ w'.cell? ⟨w5.heap.size, 1, none⟩ = some (.slice E5 X0.length f5)) (first | exact ⟨p0a_6, p0b_6, p0c_6, w0a_6, w0b_6, x0a_6, x0b_6, x0c_6, g0a_6, g0b_6⟩ | exact ⟨p0a_7, p0b_7, p0c_7, w0a_7, w0b_7, x0a_7, x0b_7, x0c_7, g0a_7, g0b_7⟩ | exact ⟨p0a_8, p0b_8, p0c_8, w0a_8, w0b_8, x0a_8, x0b_8, x0c_8, g0a_8, g0b_8⟩ | exact ⟨((p0_8).alloc _).three.1, ((p0_8).alloc _).three.2.1, ((p0_8).alloc _).three.2.2, ((w0_8).alloc _).two.1, ((w0_8).alloc _).two.2, ((x0_8).alloc _).three.1, ((x0_8).alloc _).three.2.1, ((x0_8).alloc _).three.2.2, ((g0_8).alloc _).two.1, ((g0_8).alloc _).two.2⟩) (first | (go_at_call 8; refine (toPanel_any _ _ _ _ xs0 _ ((r0_6).drew) hn0).mono ?_; rintro e w7 ⟨E7, f7, rfl, t0_7_7, hb7⟩; have r0_7 := ((r0_6).drew).below hb7; have p0_7 := ((p0_6).drew).below hb7; obtain ⟨p0a_7, p0b_7, p0c_7⟩ := p0_7.three; have t0_0_7 := ((t0_0_6).drew).below hb7; have g_1_7 := ((g_1_6).drew).below hb7; have w0_7 := ((w0_6).drew).below hb7; obtain ⟨w0a_7, w0b_7⟩ := w0_7.two; have t0_3_7 := ((t0_3_6).drew).below hb7; have x0_7 := ((x0_6).drew).below hb7; obtain ⟨x0a_7, x0b_7, x0c_7⟩ := x0_7.three; have g_5_7 := ((g_5_6).drew).below hb7; have g0_7 := ((g0_6).drew).below hb7; obtain ⟨g0a_7, g0b_7⟩ := g0_7.two; have z_7 : w6.drew.heap.size ≤ w7.heap.size := hb7.size; simp only [World.size_drew] at z_7; have B_7 := ((B_6).drew).trans (hb7.mono (by first | omega | (simp; omega) | simp))) | (go_at_call 10; refine (eqPanel_any _ _ _ _ _ _ _ _ xs0 xs0 _ ((t0_3_7).rd) ((t0_7_7).rd) hn0 hn0).mono ?_; rintro e w8 ⟨rfl, hb8⟩; have r0_8 := (r0_7).below hb8; have p0_8 := (p0_7).below hb8; obtain ⟨p0a_8, p0b_8, p0c_8⟩ := p0_8.three; have t0_0_8 := (t0_0_7).below hb8; have g_1_8 := (g_1_7).below hb8; have w0_8 := (w0_7).below hb8; obtain ⟨w0a_8, w0b_8⟩ := w0_8.two; have t0_3_8 := (t0_3_7).below hb8; have x0_8 := (x0_7).below hb8; obtain ⟨x0a_8, x0b_8, x0c_8⟩ := x0_8.three; have g_5_8 := (g_5_7).below hb8; have g0_8 := (g0_7).below hb8; obtain ⟨g0a_8, g0b_8⟩ := g0_8.two; have t0_7_8 := (t0_7_7).below hb8; have z_8 : w7.heap.size ≤ w8.heap.size := hb8.size; have B_8 := (B_7).trans (hb8.mono (by first | omega | (simp; omega) | simp))))
  go_wp2_with fail
  refine (markPanel_any _ _ _ _ _ xs0 _ _ (t0_3_8) hn0 (by omega) (by omega)).mono ?_
  rintro e w9 ⟨rfl, t0_3_9, _, rfl, hg9⟩
  have pra9 := (t0_3_8).alloc (.cells #[.int .i64 wd0, .int .i64 ht0, .slice E4 xs0.length f4] 26)
  have r0_9 := ((r0_8).alloc (.cells #[.int .i64 wd0, .int .i64 ht0, .slice E4 xs0.length f4] 26)).grownOld hr0 (pra9) (by first | omega | (simp; omega) | simp) hg9
  have p0_9 := ((p0_8).alloc (.cells #[.int .i64 wd0, .int .i64 ht0, .slice E4 xs0.length f4] 26)).grownOwn (pra9) (by decide) hg9
  obtain ⟨p0a_9, p0b_9, p0c_9⟩ := p0_9.three
  have t0_0_9 := (((t0_0_8).alloc (.cells #[.int .i64 wd0, .int .i64 ht0, .slice E4 xs0.length f4] 26)).rd).grownOld t0_0_2.rd (pra9) (by first | omega | (simp; omega) | simp) hg9
  have g_1_9 := (((g_1_8).alloc (.cells #[.int .i64 wd0, .int .i64 ht0, .slice E4 xs0.length f4] 26)).rd).grownOld g_1_3.rd (pra9) (by first | omega | (simp; omega) | simp) hg9
  have w0_9 := ((w0_8).alloc (.cells #[.int .i64 wd0, .int .i64 ht0, .slice E4 xs0.length f4] 26)).grownOwn (pra9) (by decide) hg9
  obtain ⟨w0a_9, w0b_9⟩ := w0_9.two
  have x0_9 := ((x0_8).alloc (.cells #[.int .i64 wd0, .int .i64 ht0, .slice E4 xs0.length f4] 26)).grownOwn (pra9) (by decide) hg9
  obtain ⟨x0a_9, x0b_9, x0c_9⟩ := x0_9.three
  have g_5_9 := ((g_5_8).alloc (.cells #[.int .i64 wd0, .int .i64 ht0, .slice E4 xs0.length f4] 26)).grownNew t0_3_4 (by first | omega | (simp; omega) | simp) hg9
  have g0_9 := ((g0_8).alloc (.cells #[.int .i64 wd0, .int .i64 ht0, .slice E4 xs0.length f4] 26)).grownOwn (pra9) (by decide) hg9
  obtain ⟨g0a_9, g0b_9⟩ := g0_9.two
  have t0_7_9 := ((t0_7_8).alloc (.cells #[.int .i64 wd0, .int .i64 ht0, .slice E4 xs0.length f4] 26)).grownNew t0_3_6 (by first | omega | (simp; omega) | simp) hg9
  have z_9 : (w8.alloc (.cells #[.int .i64 wd0, .int .i64 ht0, .slice E4 xs0.length f4] 26)).heap.size ≤ w9.heap.size := hg9.size
  simp only [World.size_alloc] at z_9
  have B_9 := below_mark ((B_8).alloc (by first | omega | (simp; omega) | simp) (.cells #[.int .i64 wd0, .int .i64 ht0, .slice E4 xs0.length f4] 26)) pra9 hg9 (by first | omega | (simp; omega) | simp) (by first | omega | (simp; omega) | simp)
  have hq9 : ¬ (1 + (xs0.length : Int) < 0) := by omega
  go_wp2_with fail
  refine (eqPoly_any _ _ _ _ _ _ X0 X0 _ ((g_5_9).rd) (g_1_9) hX0 hX0).mono ?_
  rintro e w10 ⟨rfl, hb10⟩
  have r0_10 := (r0_9).below hb10
  have p0_10 := (p0_9).below hb10
  obtain ⟨p0a_10, p0b_10, p0c_10⟩ := p0_10.three
  have t0_0_10 := (t0_0_9).below hb10
  have g_1_10 := (g_1_9).below hb10
  have w0_10 := (w0_9).below hb10
  obtain ⟨w0a_10, w0b_10⟩ := w0_10.two
  have t0_3_10 := (t0_3_9).below hb10
  have x0_10 := (x0_9).below hb10
  obtain ⟨x0a_10, x0b_10, x0c_10⟩ := x0_10.three
  have g_5_10 := (g_5_9).below hb10
  have g0_10 := (g0_9).below hb10
  obtain ⟨g0a_10, g0b_10⟩ := g0_10.two
  have t0_7_10 := (t0_7_9).below hb10
  have z_10 : w9.heap.size ≤ w10.heap.size := hb10.size
  have B_10 := (B_9).trans (hb10.mono (by first | omega | (simp; omega) | simp))
  go_wp2_with fail
  refine (markPoly_any _ _ _ _ X0 _ _ (g_5_10) hX0 (by omega) (by omega)).mono ?_
  rintro e w11 ⟨rfl, g_5_11, hg11⟩
  have r0_11 := (r0_10).grownOld hr0 (g_5_10) (by first | omega | (simp; omega) | simp) hg11
  have p0_11 := (p0_10).grownOwn (g_5_10) (by decide) hg11
  obtain ⟨p0a_11, p0b_11, p0c_11⟩ := p0_11.three
  have t0_0_11 := (t0_0_10).grownOld t0_0_2.rd (g_5_10) (by first | omega | (simp; omega) | simp) hg11
  have g_1_11 := (g_1_10).grownOld g_1_3.rd (g_5_10) (by first | omega | (simp; omega) | simp) hg11
  have w0_11 := (w0_10).grownOwn (g_5_10) (by decide) hg11
  obtain ⟨w0a_11, w0b_11⟩ := w0_11.two
  have x0_11 := (x0_10).grownOwn (g_5_10) (by decide) hg11
  obtain ⟨x0a_11, x0b_11, x0c_11⟩ := x0_11.three
  have g0_11 := (g0_10).grownOwn (g_5_10) (by decide) hg11
  obtain ⟨g0a_11, g0b_11⟩ := g0_11.two
  have t0_7_11 := (t0_7_10).grownNew g_5_6 (by first | omega | (simp; omega) | simp) hg11
  have z_11 : w10.heap.size ≤ w11.heap.size := hg11.size
  have B_11 := below_mark (B_10) g_5_10 hg11 (by first | omega | (simp; omega) | simp) (by first | omega | (simp; omega) | simp)
  go_wp2_with fail
  refine (heldPoly_any _ _ _ X0.length _ _ ((g_5_11).rd) hX0 (by omega) (by omega)).mono ?_
  rintro e w12 ⟨rfl, hb12⟩
  have r0_12 := (r0_11).below hb12
  have p0_12 := (p0_11).below hb12
  obtain ⟨p0a_12, p0b_12, p0c_12⟩ := p0_12.three
  have t0_0_12 := (t0_0_11).below hb12
  have g_1_12 := (g_1_11).below hb12
  have w0_12 := (w0_11).below hb12
  obtain ⟨w0a_12, w0b_12⟩ := w0_12.two
  have x0_12 := (x0_11).below hb12
  obtain ⟨x0a_12, x0b_12, x0c_12⟩ := x0_12.three
  have g_5_12 := (g_5_11).below hb12
  have g0_12 := (g0_11).below hb12
  obtain ⟨g0a_12, g0b_12⟩ := g0_12.two
  have t0_7_12 := (t0_7_11).below hb12
  have z_12 : w11.heap.size ≤ w12.heap.size := hb12.size
  have B_12 := (B_11).trans (hb12.mono (by first | omega | (simp; omega) | simp))
  have hq10 : ¬ (1 + (X0.length : Int) < 0) := by omega
  have hq11 : (1 + (X0.length : Int) != 1 + (X0.length : Int)) = false := by simp
  go_wp2_with fail
  refine (toPanel_any _ _ _ _ xs0 _ (r0_12) hn0).mono ?_
  rintro e w13 ⟨E13, f13, rfl, t0_11_13, hb13⟩
  have r0_13 := (r0_12).below hb13
  have p0_13 := (p0_12).below hb13
  obtain ⟨p0a_13, p0b_13, p0c_13⟩ := p0_13.three
  have t0_0_13 := (t0_0_12).below hb13
  have g_1_13 := (g_1_12).below hb13
  have w0_13 := (w0_12).below hb13
  obtain ⟨w0a_13, w0b_13⟩ := w0_13.two
  have x0_13 := (x0_12).below hb13
  obtain ⟨x0a_13, x0b_13, x0c_13⟩ := x0_13.three
  have g_5_13 := (g_5_12).below hb13
  have g0_13 := (g0_12).below hb13
  obtain ⟨g0a_13, g0b_13⟩ := g0_13.two
  have t0_7_13 := (t0_7_12).below hb13
  have z_13 : w12.heap.size ≤ w13.heap.size := hb13.size
  have B_13 := (B_12).trans (hb13.mono (by first | omega | (simp; omega) | simp))
  go_wp2_with fail
  refine (himpl.out _ _ _ ((t0_11_13).rd) (t0_11_13).cap_).mono ?_
  rintro e w14 ⟨E14, f14, rfl, g_12_14, hb14⟩
  have r0_14 := (r0_13).below hb14
  have p0_14 := (p0_13).below hb14
  obtain ⟨p0a_14, p0b_14, p0c_14⟩ := p0_14.three
  have t0_0_14 := (t0_0_13).below hb14
  have g_1_14 := (g_1_13).below hb14
  have w0_14 := (w0_13).below hb14
  obtain ⟨w0a_14, w0b_14⟩ := w0_14.two
  have x0_14 := (x0_13).below hb14
  obtain ⟨x0a_14, x0b_14, x0c_14⟩ := x0_14.three
  have g_5_14 := (g_5_13).below hb14
  have g0_14 := (g0_13).below hb14
  obtain ⟨g0a_14, g0b_14⟩ := g0_14.two
  have t0_7_14 := (t0_7_13).below hb14
  have t0_11_14 := (t0_11_13).below hb14
  have z_14 : w13.heap.size ≤ w14.heap.size := hb14.size
  have B_14 := (B_13).trans (hb14.mono (by first | omega | (simp; omega) | simp))
  obtain ⟨p0a_14x14, p0b_14x14, p0c_14x14⟩ := ((p0_14).alloc (.cells #[.int .i64 L0, .slice E14 X0.length f14] 34)).three
  obtain ⟨w0a_14x14, w0b_14x14⟩ := ((w0_14).alloc (.cells #[.int .i64 L0, .slice E14 X0.length f14] 34)).two
  obtain ⟨x0a_14x14, x0b_14x14, x0c_14x14⟩ := ((x0_14).alloc (.cells #[.int .i64 L0, .slice E14 X0.length f14] 34)).three
  obtain ⟨g0a_14x14, g0b_14x14⟩ := ((g0_14).alloc (.cells #[.int .i64 L0, .slice E14 X0.length f14] 34)).two
  obtain ⟨h0a_14x14, h0b_14x14⟩ := (Bx.new_ w14 (w14.heap.size) 34 #[.int .i64 L0, .slice E14 X0.length f14] (by simp)).two
  go_wp2_with fail
  refine (eqPoly_any _ _ _ _ _ _ X0 X0 _ (((g_12_14).alloc (.cells #[.int .i64 L0, .slice E14 X0.length f14] 34)).rd) ((g_1_14).alloc (.cells #[.int .i64 L0, .slice E14 X0.length f14] 34)) hX0 hX0).mono ?_
  rintro e w15 ⟨rfl, hb15⟩
  have r0_15 := ((r0_14).alloc (.cells #[.int .i64 L0, .slice E14 X0.length f14] 34)).below hb15
  have p0_15 := ((p0_14).alloc (.cells #[.int .i64 L0, .slice E14 X0.length f14] 34)).below hb15
  obtain ⟨p0a_15, p0b_15, p0c_15⟩ := p0_15.three
  have t0_0_15 := ((t0_0_14).alloc (.cells #[.int .i64 L0, .slice E14 X0.length f14] 34)).below hb15
  have g_1_15 := ((g_1_14).alloc (.cells #[.int .i64 L0, .slice E14 X0.length f14] 34)).below hb15
  have w0_15 := ((w0_14).alloc (.cells #[.int .i64 L0, .slice E14 X0.length f14] 34)).below hb15
  obtain ⟨w0a_15, w0b_15⟩ := w0_15.two
  have x0_15 := ((x0_14).alloc (.cells #[.int .i64 L0, .slice E14 X0.length f14] 34)).below hb15
  obtain ⟨x0a_15, x0b_15, x0c_15⟩ := x0_15.three
  have g_5_15 := ((g_5_14).alloc (.cells #[.int .i64 L0, .slice E14 X0.length f14] 34)).below hb15
  have g0_15 := ((g0_14).alloc (.cells #[.int .i64 L0, .slice E14 X0.length f14] 34)).below hb15
  obtain ⟨g0a_15, g0b_15⟩ := g0_15.two
  have t0_7_15 := ((t0_7_14).alloc (.cells #[.int .i64 L0, .slice E14 X0.length f14] 34)).below hb15
  have t0_11_15 := ((t0_11_14).alloc (.cells #[.int .i64 L0, .slice E14 X0.length f14] 34)).below hb15
  have g_12_15 := ((g_12_14).alloc (.cells #[.int .i64 L0, .slice E14 X0.length f14] 34)).below hb15
  have h0_15 := (Bx.new_ w14 (w14.heap.size) 34 #[.int .i64 L0, .slice E14 X0.length f14] (by simp)).below hb15
  obtain ⟨h0a_15, h0b_15⟩ := h0_15.two
  have z_15 : (w14.alloc (.cells #[.int .i64 L0, .slice E14 X0.length f14] 34)).heap.size ≤ w15.heap.size := hb15.size
  simp only [World.size_alloc] at z_15
  have B_15 := ((B_14).alloc (by first | omega | (simp; omega) | simp) (.cells #[.int .i64 L0, .slice E14 X0.length f14] 34)).trans (hb15.mono (by first | omega | (simp; omega) | simp))
  go_wp2_with fail
  refine (heldPoly_any _ _ _ X0.length _ _ ((g_5_15).rd) hX0 (by omega) (by omega)).mono ?_
  rintro e w16 ⟨rfl, hb16⟩
  have r0_16 := (r0_15).below hb16
  have p0_16 := (p0_15).below hb16
  obtain ⟨p0a_16, p0b_16, p0c_16⟩ := p0_16.three
  have t0_0_16 := (t0_0_15).below hb16
  have g_1_16 := (g_1_15).below hb16
  have w0_16 := (w0_15).below hb16
  obtain ⟨w0a_16, w0b_16⟩ := w0_16.two
  have x0_16 := (x0_15).below hb16
  obtain ⟨x0a_16, x0b_16, x0c_16⟩ := x0_16.three
  have g_5_16 := (g_5_15).below hb16
  have g0_16 := (g0_15).below hb16
  obtain ⟨g0a_16, g0b_16⟩ := g0_16.two
  have t0_7_16 := (t0_7_15).below hb16
  have t0_11_16 := (t0_11_15).below hb16
  have g_12_16 := (g_12_15).below hb16
  have h0_16 := (h0_15).below hb16
  obtain ⟨h0a_16, h0b_16⟩ := h0_16.two
  have z_16 : w15.heap.size ≤ w16.heap.size := hb16.size
  have B_16 := (B_15).trans (hb16.mono (by first | omega | (simp; omega) | simp))
  have hq15 : ¬ (1 + (X0.length : Int) < 0) := by omega
  have hq16 : (1 + (X0.length : Int) != 1 + (X0.length : Int)) = false := by simp
  go_wp2_with fail
  go_ret
  exact ⟨rfl, B_16⟩

theorem walk_NormalBracket_of (wd0 ht0 : Int) (A0 : Option Addr) (c0 : Nat) (xs0 : List Int) (w : World) (hx0 : ArgI w A0 c0 xs0)
    (h : xs0.length ≤ 1048576 → ∃ (L0 : Int) (X0 : List Int) (v1 : Int), X0.length ≤ 1048576 ∧ (∀ (W : World) (B0 : Option Addr) (d0 : Nat), RI W B0 xs0 → (xs0.length ≤ d0 ∧ d0 ≤ 9223372036854775807) → Calls Try.prog 18 #[.agg #[.int .i64 wd0, .int .i64 ht0, .slice B0 xs0.length d0]] W (RetPC W L0 X0 v1)) ∧ (∀ (W : World) (B0 : Option Addr) (d0 : Nat), RI W B0 xs0 → (xs0.length ≤ d0 ∧ d0 ≤ 9223372036854775807) → Calls Try.prog 19 #[.agg #[.int .i64 wd0, .int .i64 ht0, .slice B0 xs0.length d0]] W (RetPC W L0 X0 v1))) :
    Calls Try.prog 5 #[.agg #[.int .i64 wd0, .int .i64 ht0, .slice A0 xs0.length c0]] w fun e w' => e = .returned (.bool true) ∧ Below w.heap.size w w' := by
  by_cases hs : xs0.length ≤ 1048576
  · obtain ⟨L0, X0, v1, hX0, h1, h2⟩ := h hs
    exact walk_NormalBracket_core wd0 ht0 A0 c0 xs0 w hx0 hs L0 X0 v1 hX0 h1 h2
  · exact walk_NormalBracket_big0 wd0 ht0 A0 c0 xs0 w hx0 (by omega)

end Go.Proofs.Ytgdgjcpkelokiaa

namespace Go.Proofs.Ytgdgjcpkelokiaa
open Go.RowKit
set_option linter.unusedVariables false

theorem walk_NormalBracket (w : World) (wd0 ht0 : Int) (A0 : Option Addr) (c0 : Nat) (xs0 : List Int) (iw : I64 wd0) (ih : I64 ht0) (hx0 : ArgI w A0 c0 xs0) :
    Calls Try.prog 5 #[.agg #[.int .i64 wd0, .int .i64 ht0, .slice A0 xs0.length c0]] w fun e w' => e = .returned (.bool true) ∧ Below w.heap.size w w' :=
  walk_NormalBracket_of wd0 ht0 A0 c0 xs0 w hx0 fun hn => ⟨(nbR wd0 ht0 xs0).1.1, (nbR wd0 ht0 xs0).1.2, (nbR wd0 ht0 xs0).2, Nat.le_trans nbR_len (by omega), fun W B d h hc => specNormalBracket_any _ _ _ _ _ _ h hn, fun W B d h hc => implNormalBracket_any _ _ _ _ _ _ h hc hn⟩
end Go.Proofs.Ytgdgjcpkelokiaa
