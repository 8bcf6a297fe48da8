/-
  The core of the walk of the law FnExactOwnWrithe: the law answers true wherever the two functions hand back the same. Conditions: the two functions' contracts, given as hypotheses.
-/
import Derived.Test.YtbeicgkgbhhgpaaOpen
import Derived.Test.YtbeicgkgbhhgpaaPanel
import Derived.Test.YtbeicgkgbhhgpaaRetE
import Derived.Deep.DeepCutAuto
import Derived.Deep.RegionHeld3
namespace Go.Proofs.Ytbeicgkgbhhgpaa
open Go.RowKit
set_option linter.unusedVariables false

set_option maxHeartbeats 1000000 in
theorem walk_OwnWrithe_big0 (wd0 ht0 : Int) (A0 : Option Addr) (c0 : Nat) (xs0 : List Int) (a1 : Int) (w : World) (hx0 : ArgI w A0 c0 xs0)  (hno : 1048576 < xs0.length) :
    Calls Try.prog 7 #[.agg #[.int .i64 wd0, .int .i64 ht0, .slice A0 xs0.length c0], .int .i64 a1] w fun e w' => e = .returned (.bool true) ∧ Below w.heap.size w w' := by
  obtain ⟨hl0, hm0, hr0, hi0⟩ := hx0
  go_enter Try.func7, Try.ntmps7
  go_wp2_with fail
  have k0 : (1048576 : Int) < ((xs0.length : Nat) : Int) := by omega
  refine (szPanel_no _ _ _ _ _ _ _ (by omega) k0 (by omega)).mono ?_
  rintro e w1 ⟨rfl, hb1⟩
  have r0_1 := ((hr0).alloc (.cells #[.int .i64 wd0, .int .i64 ht0, .slice A0 xs0.length c0] 24)).below hb1
  have p0_1 := (Bx.new_ w (w.heap.size) 24 #[.int .i64 wd0, .int .i64 ht0, .slice A0 xs0.length c0] (by simp)).below hb1
  obtain ⟨p0a_1, p0b_1, p0c_1⟩ := p0_1.three
  have z_1 : (w.alloc (.cells #[.int .i64 wd0, .int .i64 ht0, .slice A0 xs0.length c0] 24)).heap.size ≤ w1.heap.size := hb1.size
  simp only [World.size_alloc] at z_1
  have B_1 := ((Below.refl w.heap.size w).alloc (by first | omega | (simp; omega) | simp) (.cells #[.int .i64 wd0, .int .i64 ht0, .slice A0 xs0.length c0] 24)).trans (hb1.mono (by first | omega | (simp; omega) | simp))
  go_wp2_with fail
  go_ret
  exact ⟨rfl, B_1⟩

set_option maxRecDepth 20000 in
set_option maxHeartbeats 4000000 in
theorem walk_OwnWrithe_core (wd0 ht0 : Int) (A0 : Option Addr) (c0 : Nat) (xs0 : List Int) (a1 : Int) (w : World) (hx0 : ArgI w A0 c0 xs0) (hsm : xs0.length ≤ 1048576) (v0 : Int) (v1 : Int) 
    (hspec0 : ∀ (W : World) (B0 : Option Addr) (d0 : Nat), RI W B0 xs0 → (xs0.length ≤ d0 ∧ d0 ≤ 9223372036854775807) → Calls Try.prog 29 #[.agg #[.int .i64 wd0, .int .i64 ht0, .slice B0 xs0.length d0], .int .i64 a1] W (RetV W (.tuple #[.int .i64 v0, .int .i64 v1])))
    (himpl0 : ∀ (W : World) (B0 : Option Addr) (d0 : Nat), RI W B0 xs0 → (xs0.length ≤ d0 ∧ d0 ≤ 9223372036854775807) → Calls Try.prog 30 #[.agg #[.int .i64 wd0, .int .i64 ht0, .slice B0 xs0.length d0], .int .i64 a1] W (RetV W (.tuple #[.int .i64 v0, .int .i64 v1]))) :
    Calls Try.prog 7 #[.agg #[.int .i64 wd0, .int .i64 ht0, .slice A0 xs0.length c0], .int .i64 a1] w fun e w' => e = .returned (.bool true) ∧ Below w.heap.size w w' := by
  obtain ⟨hl0, hm0, hr0, hi0⟩ := hx0
  have hspec := hide hspec0; have himpl := hide himpl0; clear hspec0 himpl0
  have hn0 : xs0.length ≤ 1048576 := by omega
  have hv0 : (v0 != v0) = false := by simp
  have hv1 : (v1 != v1) = false := by simp
  go_enter Try.func7, Try.ntmps7
  go_wp2_with fail
  have k_0 : ((xs0.length : Nat) : Int) ≤ 1048576 := by omega
  refine (szPanel_ok _ _ _ _ _ _ _ k_0 (by omega)).mono ?_
  rintro e w1 ⟨rfl, hb1⟩
  have r0_1 := ((hr0).alloc (.cells #[.int .i64 wd0, .int .i64 ht0, .slice A0 xs0.length c0] 24)).below hb1
  have p0_1 := (Bx.new_ w (w.heap.size) 24 #[.int .i64 wd0, .int .i64 ht0, .slice A0 xs0.length c0] (by simp)).below hb1
  obtain ⟨p0a_1, p0b_1, p0c_1⟩ := p0_1.three
  have z_1 : (w.alloc (.cells #[.int .i64 wd0, .int .i64 ht0, .slice A0 xs0.length c0] 24)).heap.size ≤ w1.heap.size := hb1.size
  simp only [World.size_alloc] at z_1
  have B_1 := ((Below.refl w.heap.size w).alloc (by first | omega | (simp; omega) | simp) (.cells #[.int .i64 wd0, .int .i64 ht0, .slice A0 xs0.length c0] 24)).trans (hb1.mono (by first | omega | (simp; omega) | simp))
  have kk_1 : ¬ (1048576 - (xs0.length : Int) < 0) := by omega
  go_wp2_with fail
  refine (toPanel_any _ _ _ _ xs0 _ (r0_1) hn0).mono ?_
  rintro e w2 ⟨E2, f2, rfl, t0_0_2, hb2⟩
  have r0_2 := (r0_1).below hb2
  have p0_2 := (p0_1).below hb2
  obtain ⟨p0a_2, p0b_2, p0c_2⟩ := p0_2.three
  have z_2 : w1.heap.size ≤ w2.heap.size := hb2.size
  have B_2 := (B_1).trans (hb2.mono (by first | omega | (simp; omega) | simp))
  go_wp2_with fail
  refine (hspec.out _ _ _ ((t0_0_2).rd) (t0_0_2).cap_).mono ?_
  rintro e w3 ⟨rfl, hb3⟩
  have r0_3 := (r0_2).below hb3
  have p0_3 := (p0_2).below hb3
  obtain ⟨p0a_3, p0b_3, p0c_3⟩ := p0_3.three
  have t0_0_3 := (t0_0_2).below hb3
  have z_3 : w2.heap.size ≤ w3.heap.size := hb3.size
  have B_3 := (B_2).trans (hb3.mono (by first | omega | (simp; omega) | simp))
  go_wp2_with fail
  refine (toPanel_any _ _ _ _ xs0 _ (r0_3) hn0).mono ?_
  rintro e w4 ⟨E4, f4, rfl, t0_2_4, hb4⟩
  have r0_4 := (r0_3).below hb4
  have p0_4 := (p0_3).below hb4
  obtain ⟨p0a_4, p0b_4, p0c_4⟩ := p0_4.three
  have t0_0_4 := (t0_0_3).below hb4
  have z_4 : w3.heap.size ≤ w4.heap.size := hb4.size
  have B_4 := (B_3).trans (hb4.mono (by first | omega | (simp; omega) | simp))
  obtain ⟨p0a_4x4, p0b_4x4, p0c_4x4⟩ := ((p0_4).alloc (.cells #[.int .i64 wd0, .int .i64 ht0, .slice E4 xs0.length f4] 28)).three
  obtain ⟨x0a_4x4, x0b_4x4, x0c_4x4⟩ := (Bx.new_ w4 (w4.heap.size) 28 #[.int .i64 wd0, .int .i64 ht0, .slice E4 xs0.length f4] (by simp)).three
  go_wp2_with fail
  refine (himpl.out _ _ _ (((t0_2_4).alloc (.cells #[.int .i64 wd0, .int .i64 ht0, .slice E4 xs0.length f4] 28)).rd) ((t0_2_4).alloc (.cells #[.int .i64 wd0, .int .i64 ht0, .slice E4 xs0.length f4] 28)).cap_).mono ?_
  rintro e w5 ⟨rfl, hb5⟩
  have r0_5 := ((r0_4).alloc (.cells #[.int .i64 wd0, .int .i64 ht0, .slice E4 xs0.length f4] 28)).below hb5
  have p0_5 := ((p0_4).alloc (.cells #[.int .i64 wd0, .int .i64 ht0, .slice E4 xs0.length f4] 28)).below hb5
  obtain ⟨p0a_5, p0b_5, p0c_5⟩ := p0_5.three
  have t0_0_5 := ((t0_0_4).alloc (.cells #[.int .i64 wd0, .int .i64 ht0, .slice E4 xs0.length f4] 28)).below hb5
  have t0_2_5 := ((t0_2_4).alloc (.cells #[.int .i64 wd0, .int .i64 ht0, .slice E4 xs0.length f4] 28)).below hb5
  have x0_5 := (Bx.new_ w4 (w4.heap.size) 28 #[.int .i64 wd0, .int .i64 ht0, .slice E4 xs0.length f4] (by simp)).below hb5
  obtain ⟨x0a_5, x0b_5, x0c_5⟩ := x0_5.three
  have z_5 : (w4.alloc (.cells #[.int .i64 wd0, .int .i64 ht0, .slice E4 xs0.length f4] 28)).heap.size ≤ w5.heap.size := hb5.size
  simp only [World.size_alloc] at z_5
  have B_5 := ((B_4).alloc (by first | omega | (simp; omega) | simp) (.cells #[.int .i64 wd0, .int .i64 ht0, .slice E4 xs0.length f4] 28)).trans (hb5.mono (by first | omega | (simp; omega) | simp))
  go_wp2_with fail
  go_region_held3 (fun w' => w'.cell? ⟨w.heap.size, 0, none⟩ = some (.int .i64 wd0) ∧ w'.cell? ⟨w.heap.size, 1, none⟩ = some (.int .i64 ht0) ∧ w'.cell? ⟨w.heap.size, 2, none⟩ = some (.slice A0 xs0.length c0) ∧ w'.cell? ⟨w4.heap.size, 0, none⟩ = some (.int .i64 wd0) ∧ w'.cell? ⟨w4.heap.size, 1, none⟩ = some (.int .i64 ht0) ∧ w'.cell? ⟨w4.heap.size, 2, none⟩ = some (.slice E4 xs0.length f4)) (first | exact ⟨p0a_5, p0b_5, p0c_5, x0a_5, x0b_5, x0c_5⟩ | exact ⟨p0a_6, p0b_6, p0c_6, x0a_6, x0b_6, x0c_6⟩ | exact ⟨p0a_7, p0b_7, p0c_7, x0a_7, x0b_7, x0c_7⟩ | exact ⟨((p0_7).alloc _).three.1, ((p0_7).alloc _).three.2.1, ((p0_7).alloc _).three.2.2, ((x0_7).alloc _).three.1, ((x0_7).alloc _).three.2.1, ((x0_7).alloc _).three.2.2⟩) (first | (go_at_call 15; refine (toPanel_any _ _ _ _ xs0 _ ((r0_5).drew) hn0).mono ?_; rintro e w6 ⟨E6, f6, rfl, t0_5_6, hb6⟩; have r0_6 := ((r0_5).drew).below hb6; have p0_6 := ((p0_5).drew).below hb6; obtain ⟨p0a_6, p0b_6, p0c_6⟩ := p0_6.three; have t0_0_6 := ((t0_0_5).drew).below hb6; have t0_2_6 := ((t0_2_5).drew).below hb6; have x0_6 := ((x0_5).drew).below hb6; obtain ⟨x0a_6, x0b_6, x0c_6⟩ := x0_6.three; have z_6 : w5.drew.heap.size ≤ w6.heap.size := hb6.size; simp only [World.size_drew] at z_6; have B_6 := ((B_5).drew).trans (hb6.mono (by first | omega | (simp; omega) | simp))) | (go_at_call 17; refine (eqPanel_any _ _ _ _ _ _ _ _ xs0 xs0 _ ((t0_2_6).rd) ((t0_5_6).rd) hn0 hn0).mono ?_; rintro e w7 ⟨rfl, hb7⟩; have r0_7 := (r0_6).below hb7; have p0_7 := (p0_6).below hb7; obtain ⟨p0a_7, p0b_7, p0c_7⟩ := p0_7.three; have t0_0_7 := (t0_0_6).below hb7; have t0_2_7 := (t0_2_6).below hb7; have x0_7 := (x0_6).below hb7; obtain ⟨x0a_7, x0b_7, x0c_7⟩ := x0_7.three; have t0_5_7 := (t0_5_6).below hb7; have z_7 : w6.heap.size ≤ w7.heap.size := hb7.size; have B_7 := (B_6).trans (hb7.mono (by first | omega | (simp; omega) | simp))))
  go_wp2_with fail
  go_ret
  exact ⟨rfl, B_7⟩

theorem walk_OwnWrithe_of (wd0 ht0 : Int) (A0 : Option Addr) (c0 : Nat) (xs0 : List Int) (a1 : Int) (w : World) (hx0 : ArgI w A0 c0 xs0)
    (h : xs0.length ≤ 1048576 → ∃ (v0 : Int) (v1 : Int), (∀ (W : World) (B0 : Option Addr) (d0 : Nat), RI W B0 xs0 → (xs0.length ≤ d0 ∧ d0 ≤ 9223372036854775807) → Calls Try.prog 29 #[.agg #[.int .i64 wd0, .int .i64 ht0, .slice B0 xs0.length d0], .int .i64 a1] W (RetV W (.tuple #[.int .i64 v0, .int .i64 v1]))) ∧ (∀ (W : World) (B0 : Option Addr) (d0 : Nat), RI W B0 xs0 → (xs0.length ≤ d0 ∧ d0 ≤ 9223372036854775807) → Calls Try.prog 30 #[.agg #[.int .i64 wd0, .int .i64 ht0, .slice B0 xs0.length d0], .int .i64 a1] W (RetV W (.tuple #[.int .i64 v0, .int .i64 v1])))) :
    Calls Try.prog 7 #[.agg #[.int .i64 wd0, .int .i64 ht0, .slice A0 xs0.length c0], .int .i64 a1] w fun e w' => e = .returned (.bool true) ∧ Below w.heap.size w w' := by
  by_cases hs : xs0.length ≤ 1048576
  · obtain ⟨v0, v1, h1, h2⟩ := h hs
    exact walk_OwnWrithe_core wd0 ht0 A0 c0 xs0 a1 w hx0 hs v0 v1  h1 h2
  · exact walk_OwnWrithe_big0 wd0 ht0 A0 c0 xs0 a1 w hx0 (by omega)

end Go.Proofs.Ytbeicgkgbhhgpaa
