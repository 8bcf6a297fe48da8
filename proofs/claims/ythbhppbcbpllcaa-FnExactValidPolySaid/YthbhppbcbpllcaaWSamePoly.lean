/-
  The core of the walk of the law FnExactSamePoly: the law answers true wherever the two functions hand back the same. Conditions: the two functions' contracts, given as hypotheses.
-/
import Derived.Test.YthbhppbcbpllcaaPolyEq
import Derived.Test.YthbhppbcbpllcaaOpen
namespace Go.Proofs.Ythbhppbcbpllcaa
open Go.RowKit
set_option linter.unusedVariables false

set_option maxHeartbeats 1000000 in
theorem walk_SamePoly_big0 (l0 : Int) (A0 : Option Addr) (c0 : Nat) (xs0 : List Int) (l1 : Int) (A1 : Option Addr) (c1 : Nat) (xs1 : List Int) (w : World) (hx0 : ArgI w A0 c0 xs0) (hx1 : ArgI w A1 c1 xs1)  (hno : 1048576 < xs0.length) :
    Calls Try.prog 4 #[.agg #[.int .i64 l0, .slice A0 xs0.length c0], .agg #[.int .i64 l1, .slice A1 xs1.length c1]] w fun e w' => e = .returned (.bool true) ∧ Below w.heap.size w w' := by
  obtain ⟨hl0, hm0, hr0, hi0⟩ := hx0
  obtain ⟨hl1, hm1, hr1, hi1⟩ := hx1
  go_enter Try.func4, Try.ntmps4
  go_wp2_with fail
  have k0 : (1048576 : Int) < ((xs0.length : Nat) : Int) := by omega
  refine (szPoly_no _ _ _ _ _ _ (by omega) k0 (by omega)).mono ?_
  rintro e w1 ⟨rfl, hb1⟩
  have r0_1 := (((hr0).alloc (.cells #[.int .i64 l0, .slice A0 xs0.length c0] 26)).alloc (.cells #[.int .i64 l1, .slice A1 xs1.length c1] 26)).below hb1
  have r1_1 := (((hr1).alloc (.cells #[.int .i64 l0, .slice A0 xs0.length c0] 26)).alloc (.cells #[.int .i64 l1, .slice A1 xs1.length c1] 26)).below hb1
  have p0_1 := ((Bx.new_ w (w.heap.size) 26 #[.int .i64 l0, .slice A0 xs0.length c0] (by simp)).alloc (.cells #[.int .i64 l1, .slice A1 xs1.length c1] 26)).below hb1
  obtain ⟨p0a_1, p0b_1⟩ := p0_1.two
  have p1_1 := (Bx.new_ (w.alloc (.cells #[.int .i64 l0, .slice A0 xs0.length c0] 26)) (w.heap.size + 1) 26 #[.int .i64 l1, .slice A1 xs1.length c1] (by simp)).below hb1
  obtain ⟨p1a_1, p1b_1⟩ := p1_1.two
  have z_1 : ((w.alloc (.cells #[.int .i64 l0, .slice A0 xs0.length c0] 26)).alloc (.cells #[.int .i64 l1, .slice A1 xs1.length c1] 26)).heap.size ≤ w1.heap.size := hb1.size
  simp only [World.size_alloc] at z_1
  have B_1 := (((Below.refl w.heap.size w).alloc (by first | omega | (simp; omega) | simp) (.cells #[.int .i64 l0, .slice A0 xs0.length c0] 26)).alloc (by first | omega | (simp; omega) | simp) (.cells #[.int .i64 l1, .slice A1 xs1.length c1] 26)).trans (hb1.mono (by first | omega | (simp; omega) | simp))
  go_wp2_with fail
  go_ret
  exact ⟨rfl, B_1⟩

set_option maxHeartbeats 1000000 in
theorem walk_SamePoly_big1 (l0 : Int) (A0 : Option Addr) (c0 : Nat) (xs0 : List Int) (l1 : Int) (A1 : Option Addr) (c1 : Nat) (xs1 : List Int) (w : World) (hx0 : ArgI w A0 c0 xs0) (hx1 : ArgI w A1 c1 xs1) (hs0 : xs0.length ≤ 1048576) (hno : 1048576 < xs0.length + xs1.length) :
    Calls Try.prog 4 #[.agg #[.int .i64 l0, .slice A0 xs0.length c0], .agg #[.int .i64 l1, .slice A1 xs1.length c1]] w fun e w' => e = .returned (.bool true) ∧ Below w.heap.size w w' := by
  obtain ⟨hl0, hm0, hr0, hi0⟩ := hx0
  obtain ⟨hl1, hm1, hr1, hi1⟩ := hx1
  go_enter Try.func4, Try.ntmps4
  go_wp2_with fail
  have k0 : ((xs0.length : Nat) : Int) ≤ 1048576 := by omega
  refine (szPoly_ok _ _ _ _ _ _ k0 (by omega)).mono ?_
  rintro e w1 ⟨rfl, hb1⟩
  have r0_1 := (((hr0).alloc (.cells #[.int .i64 l0, .slice A0 xs0.length c0] 26)).alloc (.cells #[.int .i64 l1, .slice A1 xs1.length c1] 26)).below hb1
  have r1_1 := (((hr1).alloc (.cells #[.int .i64 l0, .slice A0 xs0.length c0] 26)).alloc (.cells #[.int .i64 l1, .slice A1 xs1.length c1] 26)).below hb1
  have p0_1 := ((Bx.new_ w (w.heap.size) 26 #[.int .i64 l0, .slice A0 xs0.length c0] (by simp)).alloc (.cells #[.int .i64 l1, .slice A1 xs1.length c1] 26)).below hb1
  obtain ⟨p0a_1, p0b_1⟩ := p0_1.two
  have p1_1 := (Bx.new_ (w.alloc (.cells #[.int .i64 l0, .slice A0 xs0.length c0] 26)) (w.heap.size + 1) 26 #[.int .i64 l1, .slice A1 xs1.length c1] (by simp)).below hb1
  obtain ⟨p1a_1, p1b_1⟩ := p1_1.two
  have z_1 : ((w.alloc (.cells #[.int .i64 l0, .slice A0 xs0.length c0] 26)).alloc (.cells #[.int .i64 l1, .slice A1 xs1.length c1] 26)).heap.size ≤ w1.heap.size := hb1.size
  simp only [World.size_alloc] at z_1
  have B_1 := (((Below.refl w.heap.size w).alloc (by first | omega | (simp; omega) | simp) (.cells #[.int .i64 l0, .slice A0 xs0.length c0] 26)).alloc (by first | omega | (simp; omega) | simp) (.cells #[.int .i64 l1, .slice A1 xs1.length c1] 26)).trans (hb1.mono (by first | omega | (simp; omega) | simp))
  go_wp2_with fail
  have k1 : (1048576 - (xs0.length : Int) : Int) < ((xs1.length : Nat) : Int) := by omega
  refine (szPoly_no _ _ _ _ _ _ (by omega) k1 (by omega)).mono ?_
  rintro e w2 ⟨rfl, hb2⟩
  have r0_2 := (r0_1).below hb2
  have r1_2 := (r1_1).below hb2
  have p0_2 := (p0_1).below hb2
  obtain ⟨p0a_2, p0b_2⟩ := p0_2.two
  have p1_2 := (p1_1).below hb2
  obtain ⟨p1a_2, p1b_2⟩ := p1_2.two
  have z_2 : w1.heap.size ≤ w2.heap.size := hb2.size
  have B_2 := (B_1).trans (hb2.mono (by first | omega | (simp; omega) | simp))
  go_wp2_with fail
  go_ret
  exact ⟨rfl, B_2⟩

set_option maxHeartbeats 4000000 in
theorem walk_SamePoly_core (l0 : Int) (A0 : Option Addr) (c0 : Nat) (xs0 : List Int) (l1 : Int) (A1 : Option Addr) (c1 : Nat) (xs1 : List Int) (w : World) (hx0 : ArgI w A0 c0 xs0) (hx1 : ArgI w A1 c1 xs1) (hsm : xs0.length + xs1.length ≤ 1048576) (v0 : Bool) 
    (hspec0 : ∀ (W : World) (B0 : Option Addr) (d0 : Nat) (B1 : Option Addr) (d1 : Nat), RI W B0 xs0 → RI W B1 xs1 → Calls Try.prog 17 #[.agg #[.int .i64 l0, .slice B0 xs0.length d0], .agg #[.int .i64 l1, .slice B1 xs1.length d1]] W (RetV W (.bool v0)))
    (himpl0 : ∀ (W : World) (B0 : Option Addr) (d0 : Nat) (B1 : Option Addr) (d1 : Nat), RI W B0 xs0 → RI W B1 xs1 → Calls Try.prog 19 #[.agg #[.int .i64 l0, .slice B0 xs0.length d0], .agg #[.int .i64 l1, .slice B1 xs1.length d1]] W (RetV W (.bool v0))) :
    Calls Try.prog 4 #[.agg #[.int .i64 l0, .slice A0 xs0.length c0], .agg #[.int .i64 l1, .slice A1 xs1.length c1]] w fun e w' => e = .returned (.bool true) ∧ Below w.heap.size w w' := by
  obtain ⟨hl0, hm0, hr0, hi0⟩ := hx0
  obtain ⟨hl1, hm1, hr1, hi1⟩ := hx1
  have hspec := hide hspec0; have himpl := hide himpl0; clear hspec0 himpl0
  have hn0 : xs0.length ≤ 1048576 := by omega
  have hn1 : xs1.length ≤ 1048576 := by omega
  have hv0 : (v0 != v0) = false := by simp
  go_enter Try.func4, Try.ntmps4
  go_wp2_with fail
  have k_0 : ((xs0.length : Nat) : Int) ≤ 1048576 := by omega
  refine (szPoly_ok _ _ _ _ _ _ k_0 (by omega)).mono ?_
  rintro e w1 ⟨rfl, hb1⟩
  have r0_1 := (((hr0).alloc (.cells #[.int .i64 l0, .slice A0 xs0.length c0] 26)).alloc (.cells #[.int .i64 l1, .slice A1 xs1.length c1] 26)).below hb1
  have r1_1 := (((hr1).alloc (.cells #[.int .i64 l0, .slice A0 xs0.length c0] 26)).alloc (.cells #[.int .i64 l1, .slice A1 xs1.length c1] 26)).below hb1
  have p0_1 := ((Bx.new_ w (w.heap.size) 26 #[.int .i64 l0, .slice A0 xs0.length c0] (by simp)).alloc (.cells #[.int .i64 l1, .slice A1 xs1.length c1] 26)).below hb1
  obtain ⟨p0a_1, p0b_1⟩ := p0_1.two
  have p1_1 := (Bx.new_ (w.alloc (.cells #[.int .i64 l0, .slice A0 xs0.length c0] 26)) (w.heap.size + 1) 26 #[.int .i64 l1, .slice A1 xs1.length c1] (by simp)).below hb1
  obtain ⟨p1a_1, p1b_1⟩ := p1_1.two
  have z_1 : ((w.alloc (.cells #[.int .i64 l0, .slice A0 xs0.length c0] 26)).alloc (.cells #[.int .i64 l1, .slice A1 xs1.length c1] 26)).heap.size ≤ w1.heap.size := hb1.size
  simp only [World.size_alloc] at z_1
  have B_1 := (((Below.refl w.heap.size w).alloc (by first | omega | (simp; omega) | simp) (.cells #[.int .i64 l0, .slice A0 xs0.length c0] 26)).alloc (by first | omega | (simp; omega) | simp) (.cells #[.int .i64 l1, .slice A1 xs1.length c1] 26)).trans (hb1.mono (by first | omega | (simp; omega) | simp))
  have kk_1 : ¬ (1048576 - (xs0.length : Int) < 0) := by omega
  go_wp2_with fail
  have k_1 : ((xs1.length : Nat) : Int) ≤ 1048576 - (xs0.length : Int) := by omega
  refine (szPoly_ok _ _ _ _ _ _ k_1 (by omega)).mono ?_
  rintro e w2 ⟨rfl, hb2⟩
  have r0_2 := (r0_1).below hb2
  have r1_2 := (r1_1).below hb2
  have p0_2 := (p0_1).below hb2
  obtain ⟨p0a_2, p0b_2⟩ := p0_2.two
  have p1_2 := (p1_1).below hb2
  obtain ⟨p1a_2, p1b_2⟩ := p1_2.two
  have z_2 : w1.heap.size ≤ w2.heap.size := hb2.size
  have B_2 := (B_1).trans (hb2.mono (by first | omega | (simp; omega) | simp))
  have kk_2 : ¬ (1048576 - (xs0.length : Int) - (xs1.length : Int) < 0) := by omega
  go_wp2_with fail
  go_region_held3 (fun w' => w'.cell? ⟨w.heap.size, 0, none⟩ = some (.int .i64 l0) ∧ w'.cell? ⟨w.heap.size, 1, none⟩ = some (.slice A0 xs0.length c0) ∧ w'.cell? ⟨w.heap.size + 1, 0, none⟩ = some (.int .i64 l1) ∧ w'.cell? ⟨w.heap.size + 1, 1, none⟩ = some (.slice A1 xs1.length c1)) (first | exact ⟨p0a_2, p0b_2, p1a_2, p1b_2⟩ | exact ⟨p0a_3, p0b_3, p1a_3, p1b_3⟩ | exact ⟨p0a_4, p0b_4, p1a_4, p1b_4⟩ | exact ⟨p0a_5, p0b_5, p1a_5, p1b_5⟩) (first | (go_at_call_of 18 (Value.agg #[.int .i64 l0, .slice A0 xs0.length c0]); refine (toPoly_any _ _ _ xs0 _ ((r0_2).drew) hn0).mono ?_; rintro e w3 ⟨E3, f3, rfl, t0_0_3, hb3⟩; have r0_3 := ((r0_2).drew).below hb3; have r1_3 := ((r1_2).drew).below hb3; have p0_3 := ((p0_2).drew).below hb3; obtain ⟨p0a_3, p0b_3⟩ := p0_3.two; have p1_3 := ((p1_2).drew).below hb3; obtain ⟨p1a_3, p1b_3⟩ := p1_3.two; have z_3 : w2.drew.heap.size ≤ w3.heap.size := hb3.size; simp only [World.size_drew] at z_3; have B_3 := ((B_2).drew).trans (hb3.mono (by first | omega | (simp; omega) | simp))) | (go_at_call_of 18 (Value.agg #[.int .i64 l1, .slice A1 xs1.length c1]); refine (toPoly_any _ _ _ xs1 _ (r1_3) hn1).mono ?_; rintro e w4 ⟨E4, f4, rfl, t1_1_4, hb4⟩; have r0_4 := (r0_3).below hb4; have r1_4 := (r1_3).below hb4; have p0_4 := (p0_3).below hb4; obtain ⟨p0a_4, p0b_4⟩ := p0_4.two; have p1_4 := (p1_3).below hb4; obtain ⟨p1a_4, p1b_4⟩ := p1_4.two; have t0_0_4 := (t0_0_3).below hb4; have z_4 : w3.heap.size ≤ w4.heap.size := hb4.size; have B_4 := (B_3).trans (hb4.mono (by first | omega | (simp; omega) | simp))) | (go_at_call 17; refine (hspec.out _ _ _ _ _ ((t0_0_4).rd) ((t1_1_4).rd)).mono ?_; rintro e w5 ⟨rfl, hb5⟩; have r0_5 := (r0_4).below hb5; have r1_5 := (r1_4).below hb5; have p0_5 := (p0_4).below hb5; obtain ⟨p0a_5, p0b_5⟩ := p0_5.two; have p1_5 := (p1_4).below hb5; obtain ⟨p1a_5, p1b_5⟩ := p1_5.two; have t0_0_5 := (t0_0_4).below hb5; have t1_1_5 := (t1_1_4).below hb5; have z_5 : w4.heap.size ≤ w5.heap.size := hb5.size; have B_5 := (B_4).trans (hb5.mono (by first | omega | (simp; omega) | simp))))
  go_wp2_with fail
  refine (toPoly_any _ _ _ xs0 _ (r0_5) hn0).mono ?_
  rintro e w6 ⟨E6, f6, rfl, t0_3_6, hb6⟩
  have r0_6 := (r0_5).below hb6
  have r1_6 := (r1_5).below hb6
  have p0_6 := (p0_5).below hb6
  obtain ⟨p0a_6, p0b_6⟩ := p0_6.two
  have p1_6 := (p1_5).below hb6
  obtain ⟨p1a_6, p1b_6⟩ := p1_6.two
  have t0_0_6 := (t0_0_5).below hb6
  have t1_1_6 := (t1_1_5).below hb6
  have z_6 : w5.heap.size ≤ w6.heap.size := hb6.size
  have B_6 := (B_5).trans (hb6.mono (by first | omega | (simp; omega) | simp))
  obtain ⟨p0a_6x5, p0b_6x5⟩ := ((p0_6).alloc (.cells #[.int .i64 l0, .slice E6 xs0.length f6] 29)).two
  obtain ⟨p1a_6x5, p1b_6x5⟩ := ((p1_6).alloc (.cells #[.int .i64 l0, .slice E6 xs0.length f6] 29)).two
  obtain ⟨x0a_6x5, x0b_6x5⟩ := (Bx.new_ w6 (w6.heap.size) 29 #[.int .i64 l0, .slice E6 xs0.length f6] (by simp)).two
  go_wp2_with fail
  refine (toPoly_any _ _ _ xs1 _ ((r1_6).alloc (.cells #[.int .i64 l0, .slice E6 xs0.length f6] 29)) hn1).mono ?_
  rintro e w7 ⟨E7, f7, rfl, t1_5_7, hb7⟩
  have r0_7 := ((r0_6).alloc (.cells #[.int .i64 l0, .slice E6 xs0.length f6] 29)).below hb7
  have r1_7 := ((r1_6).alloc (.cells #[.int .i64 l0, .slice E6 xs0.length f6] 29)).below hb7
  have p0_7 := ((p0_6).alloc (.cells #[.int .i64 l0, .slice E6 xs0.length f6] 29)).below hb7
  obtain ⟨p0a_7, p0b_7⟩ := p0_7.two
  have p1_7 := ((p1_6).alloc (.cells #[.int .i64 l0, .slice E6 xs0.length f6] 29)).below hb7
  obtain ⟨p1a_7, p1b_7⟩ := p1_7.two
  have t0_0_7 := ((t0_0_6).alloc (.cells #[.int .i64 l0, .slice E6 xs0.length f6] 29)).below hb7
  have t1_1_7 := ((t1_1_6).alloc (.cells #[.int .i64 l0, .slice E6 xs0.length f6] 29)).below hb7
  have t0_3_7 := ((t0_3_6).alloc (.cells #[.int .i64 l0, .slice E6 xs0.length f6] 29)).below hb7
  have x0_7 := (Bx.new_ w6 (w6.heap.size) 29 #[.int .i64 l0, .slice E6 xs0.length f6] (by simp)).below hb7
  obtain ⟨x0a_7, x0b_7⟩ := x0_7.two
  have z_7 : (w6.alloc (.cells #[.int .i64 l0, .slice E6 xs0.length f6] 29)).heap.size ≤ w7.heap.size := hb7.size
  simp only [World.size_alloc] at z_7
  have B_7 := ((B_6).alloc (by first | omega | (simp; omega) | simp) (.cells #[.int .i64 l0, .slice E6 xs0.length f6] 29)).trans (hb7.mono (by first | omega | (simp; omega) | simp))
  obtain ⟨p0a_7x7, p0b_7x7⟩ := ((p0_7).alloc (.cells #[.int .i64 l1, .slice E7 xs1.length f7] 29)).two
  obtain ⟨p1a_7x7, p1b_7x7⟩ := ((p1_7).alloc (.cells #[.int .i64 l1, .slice E7 xs1.length f7] 29)).two
  obtain ⟨x0a_7x7, x0b_7x7⟩ := ((x0_7).alloc (.cells #[.int .i64 l1, .slice E7 xs1.length f7] 29)).two
  obtain ⟨x1a_7x7, x1b_7x7⟩ := (Bx.new_ w7 (w7.heap.size) 29 #[.int .i64 l1, .slice E7 xs1.length f7] (by simp)).two
  go_wp2_with fail
  refine (himpl.out _ _ _ _ _ (((t0_3_7).alloc (.cells #[.int .i64 l1, .slice E7 xs1.length f7] 29)).rd) (((t1_5_7).alloc (.cells #[.int .i64 l1, .slice E7 xs1.length f7] 29)).rd)).mono ?_
  rintro e w8 ⟨rfl, hb8⟩
  have r0_8 := ((r0_7).alloc (.cells #[.int .i64 l1, .slice E7 xs1.length f7] 29)).below hb8
  have r1_8 := ((r1_7).alloc (.cells #[.int .i64 l1, .slice E7 xs1.length f7] 29)).below hb8
  have p0_8 := ((p0_7).alloc (.cells #[.int .i64 l1, .slice E7 xs1.length f7] 29)).below hb8
  obtain ⟨p0a_8, p0b_8⟩ := p0_8.two
  have p1_8 := ((p1_7).alloc (.cells #[.int .i64 l1, .slice E7 xs1.length f7] 29)).below hb8
  obtain ⟨p1a_8, p1b_8⟩ := p1_8.two
  have t0_0_8 := ((t0_0_7).alloc (.cells #[.int .i64 l1, .slice E7 xs1.length f7] 29)).below hb8
  have t1_1_8 := ((t1_1_7).alloc (.cells #[.int .i64 l1, .slice E7 xs1.length f7] 29)).below hb8
  have t0_3_8 := ((t0_3_7).alloc (.cells #[.int .i64 l1, .slice E7 xs1.length f7] 29)).below hb8
  have x0_8 := ((x0_7).alloc (.cells #[.int .i64 l1, .slice E7 xs1.length f7] 29)).below hb8
  obtain ⟨x0a_8, x0b_8⟩ := x0_8.two
  have t1_5_8 := ((t1_5_7).alloc (.cells #[.int .i64 l1, .slice E7 xs1.length f7] 29)).below hb8
  have x1_8 := (Bx.new_ w7 (w7.heap.size) 29 #[.int .i64 l1, .slice E7 xs1.length f7] (by simp)).below hb8
  obtain ⟨x1a_8, x1b_8⟩ := x1_8.two
  have z_8 : (w7.alloc (.cells #[.int .i64 l1, .slice E7 xs1.length f7] 29)).heap.size ≤ w8.heap.size := hb8.size
  simp only [World.size_alloc] at z_8
  have B_8 := ((B_7).alloc (by first | omega | (simp; omega) | simp) (.cells #[.int .i64 l1, .slice E7 xs1.length f7] 29)).trans (hb8.mono (by first | omega | (simp; omega) | simp))
  go_wp2_with fail
  go_region_held3 (fun w' => w'.cell? ⟨w.heap.size, 0, none⟩ = some (.int .i64 l0) ∧ w'.cell? ⟨w.heap.size, 1, none⟩ = some (.slice A0 xs0.length c0) ∧ w'.cell? ⟨w.heap.size + 1, 0, none⟩ = some (.int .i64 l1) ∧ w'.cell? ⟨w.heap.size + 1, 1, none⟩ = some (.slice A1 xs1.length c1) ∧ w'.cell? ⟨w6.heap.size, 0, none⟩ = some (.int .i64 l0) ∧ w'.cell? ⟨w6.heap.size, 1, none⟩ = some (.slice E6 xs0.length f6) ∧ w'.cell? ⟨w7.heap.size, 0, none⟩ = some (.int .i64 l1) ∧ w'.cell? ⟨w7.heap.size, 1, none⟩ = some (.slice E7 xs1.length f7)) (first | exact ⟨p0a_8, p0b_8, p1a_8, p1b_8, x0a_8, x0b_8, x1a_8, x1b_8⟩ | exact ⟨p0a_9, p0b_9, p1a_9, p1b_9, x0a_9, x0b_9, x1a_9, x1b_9⟩ | exact ⟨p0a_10, p0b_10, p1a_10, p1b_10, x0a_10, x0b_10, x1a_10, x1b_10⟩) (first | (go_at_call 18; refine (toPoly_any _ _ _ xs0 _ ((r0_8).drew) hn0).mono ?_; rintro e w9 ⟨E9, f9, rfl, t0_8_9, hb9⟩; have r0_9 := ((r0_8).drew).below hb9; have r1_9 := ((r1_8).drew).below hb9; have p0_9 := ((p0_8).drew).below hb9; obtain ⟨p0a_9, p0b_9⟩ := p0_9.two; have p1_9 := ((p1_8).drew).below hb9; obtain ⟨p1a_9, p1b_9⟩ := p1_9.two; have t0_0_9 := ((t0_0_8).drew).below hb9; have t1_1_9 := ((t1_1_8).drew).below hb9; have t0_3_9 := ((t0_3_8).drew).below hb9; have x0_9 := ((x0_8).drew).below hb9; obtain ⟨x0a_9, x0b_9⟩ := x0_9.two; have t1_5_9 := ((t1_5_8).drew).below hb9; have x1_9 := ((x1_8).drew).below hb9; obtain ⟨x1a_9, x1b_9⟩ := x1_9.two; have z_9 : w8.drew.heap.size ≤ w9.heap.size := hb9.size; simp only [World.size_drew] at z_9; have B_9 := ((B_8).drew).trans (hb9.mono (by first | omega | (simp; omega) | simp))) | (go_at_call 20; refine (eqPoly_any _ _ _ _ _ _ xs0 xs0 _ ((t0_3_9).rd) ((t0_8_9).rd) hn0 hn0).mono ?_; rintro e w10 ⟨rfl, hb10⟩; have r0_10 := (r0_9).below hb10; have r1_10 := (r1_9).below hb10; have p0_10 := (p0_9).below hb10; obtain ⟨p0a_10, p0b_10⟩ := p0_10.two; have p1_10 := (p1_9).below hb10; obtain ⟨p1a_10, p1b_10⟩ := p1_10.two; have t0_0_10 := (t0_0_9).below hb10; have t1_1_10 := (t1_1_9).below hb10; have t0_3_10 := (t0_3_9).below hb10; have x0_10 := (x0_9).below hb10; obtain ⟨x0a_10, x0b_10⟩ := x0_10.two; have t1_5_10 := (t1_5_9).below hb10; have x1_10 := (x1_9).below hb10; obtain ⟨x1a_10, x1b_10⟩ := x1_10.two; have t0_8_10 := (t0_8_9).below hb10; have z_10 : w9.heap.size ≤ w10.heap.size := hb10.size; have B_10 := (B_9).trans (hb10.mono (by first | omega | (simp; omega) | simp))))
  go_wp2_with fail
  go_region_held3 (fun w' => w'.cell? ⟨w.heap.size, 0, none⟩ = some (.int .i64 l0) ∧ w'.cell? ⟨w.heap.size, 1, none⟩ = some (.slice A0 xs0.length c0) ∧ w'.cell? ⟨w.heap.size + 1, 0, none⟩ = some (.int .i64 l1) ∧ w'.cell? ⟨w.heap.size + 1, 1, none⟩ = some (.slice A1 xs1.length c1) ∧ w'.cell? ⟨w6.heap.size, 0, none⟩ = some (.int .i64 l0) ∧ w'.cell? ⟨w6.heap.size, 1, none⟩ = some (.slice E6 xs0.length f6) ∧ w'.cell? ⟨w7.heap.size, 0, none⟩ = some (.int .i64 l1) ∧ w'.cell? ⟨w7.heap.size, 1, none⟩ = some (.slice E7 xs1.length f7)) (first | exact ⟨p0a_10, p0b_10, p1a_10, p1b_10, x0a_10, x0b_10, x1a_10, x1b_10⟩ | exact ⟨p0a_11, p0b_11, p1a_11, p1b_11, x0a_11, x0b_11, x1a_11, x1b_11⟩ | exact ⟨p0a_12, p0b_12, p1a_12, p1b_12, x0a_12, x0b_12, x1a_12, x1b_12⟩) (first | (go_at_call 18; refine (toPoly_any _ _ _ xs1 _ ((r1_10).drew) hn1).mono ?_; rintro e w11 ⟨E11, f11, rfl, t1_9_11, hb11⟩; have r0_11 := ((r0_10).drew).below hb11; have r1_11 := ((r1_10).drew).below hb11; have p0_11 := ((p0_10).drew).below hb11; obtain ⟨p0a_11, p0b_11⟩ := p0_11.two; have p1_11 := ((p1_10).drew).below hb11; obtain ⟨p1a_11, p1b_11⟩ := p1_11.two; have t0_0_11 := ((t0_0_10).drew).below hb11; have t1_1_11 := ((t1_1_10).drew).below hb11; have t0_3_11 := ((t0_3_10).drew).below hb11; have x0_11 := ((x0_10).drew).below hb11; obtain ⟨x0a_11, x0b_11⟩ := x0_11.two; have t1_5_11 := ((t1_5_10).drew).below hb11; have x1_11 := ((x1_10).drew).below hb11; obtain ⟨x1a_11, x1b_11⟩ := x1_11.two; have t0_8_11 := ((t0_8_10).drew).below hb11; have z_11 : w10.drew.heap.size ≤ w11.heap.size := hb11.size; simp only [World.size_drew] at z_11; have B_11 := ((B_10).drew).trans (hb11.mono (by first | omega | (simp; omega) | simp))) | (go_at_call 20; refine (eqPoly_any _ _ _ _ _ _ xs1 xs1 _ ((t1_5_11).rd) ((t1_9_11).rd) hn1 hn1).mono ?_; rintro e w12 ⟨rfl, hb12⟩; have r0_12 := (r0_11).below hb12; have r1_12 := (r1_11).below hb12; have p0_12 := (p0_11).below hb12; obtain ⟨p0a_12, p0b_12⟩ := p0_12.two; have p1_12 := (p1_11).below hb12; obtain ⟨p1a_12, p1b_12⟩ := p1_12.two; have t0_0_12 := (t0_0_11).below hb12; have t1_1_12 := (t1_1_11).below hb12; have t0_3_12 := (t0_3_11).below hb12; have x0_12 := (x0_11).below hb12; obtain ⟨x0a_12, x0b_12⟩ := x0_12.two; have t1_5_12 := (t1_5_11).below hb12; have x1_12 := (x1_11).below hb12; obtain ⟨x1a_12, x1b_12⟩ := x1_12.two; have t0_8_12 := (t0_8_11).below hb12; have t1_9_12 := (t1_9_11).below hb12; have z_12 : w11.heap.size ≤ w12.heap.size := hb12.size; have B_12 := (B_11).trans (hb12.mono (by first | omega | (simp; omega) | simp))))
  go_wp2_with fail
  go_ret
  exact ⟨rfl, B_12⟩

theorem walk_SamePoly_of (l0 : Int) (A0 : Option Addr) (c0 : Nat) (xs0 : List Int) (l1 : Int) (A1 : Option Addr) (c1 : Nat) (xs1 : List Int) (w : World) (hx0 : ArgI w A0 c0 xs0) (hx1 : ArgI w A1 c1 xs1)
    (h : xs0.length + xs1.length ≤ 1048576 → ∃ (v0 : Bool), (∀ (W : World) (B0 : Option Addr) (d0 : Nat) (B1 : Option Addr) (d1 : Nat), RI W B0 xs0 → RI W B1 xs1 → Calls Try.prog 17 #[.agg #[.int .i64 l0, .slice B0 xs0.length d0], .agg #[.int .i64 l1, .slice B1 xs1.length d1]] W (RetV W (.bool v0))) ∧ (∀ (W : World) (B0 : Option Addr) (d0 : Nat) (B1 : Option Addr) (d1 : Nat), RI W B0 xs0 → RI W B1 xs1 → Calls Try.prog 19 #[.agg #[.int .i64 l0, .slice B0 xs0.length d0], .agg #[.int .i64 l1, .slice B1 xs1.length d1]] W (RetV W (.bool v0)))) :
    Calls Try.prog 4 #[.agg #[.int .i64 l0, .slice A0 xs0.length c0], .agg #[.int .i64 l1, .slice A1 xs1.length c1]] w fun e w' => e = .returned (.bool true) ∧ Below w.heap.size w w' := by
  by_cases hs : xs0.length + xs1.length ≤ 1048576
  · obtain ⟨v0, h1, h2⟩ := h hs
    exact walk_SamePoly_core l0 A0 c0 xs0 l1 A1 c1 xs1 w hx0 hx1 hs v0  h1 h2
  · by_cases hs0 : xs0.length ≤ 1048576
    · exact walk_SamePoly_big1 l0 A0 c0 xs0 l1 A1 c1 xs1 w hx0 hx1 hs0 (by omega)
    · exact walk_SamePoly_big0 l0 A0 c0 xs0 l1 A1 c1 xs1 w hx0 hx1 (by omega)

end Go.Proofs.Ythbhppbcbpllcaa
