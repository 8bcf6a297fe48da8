/-
  The core of the walk of the law FnExactIsReduced: the law answers true wherever the two functions hand back the same. Conditions: the two functions' contracts, given as hypotheses.
-/
import Derived.Test.YtenbjfkmfcbdiaaOpenC
import Derived.Test.YtenbjfkmfcbdiaaRet
namespace Go.Proofs.Ytenbjfkmfcbdiaa
open Go.RowKit
set_option linter.unusedVariables false

set_option maxHeartbeats 1000000 in
theorem walk_IsReduced_big0 (A0 : Option Addr) (c0 : Nat) (xs0 : List (List Int)) (w : World) (hx0 : ArgC w A0 c0 xs0)  (hno : 1048576 < (xs0.length + sumLen xs0)) :
    Calls Try.prog 7 #[.slice A0 xs0.length c0] w fun e w' => e = .returned (.bool true) ∧ Below w.heap.size w w' := by
  obtain ⟨hl0, hm0, hr0, hi0⟩ := hx0
  go_enter Try.func7, Try.ntmps7
  have k0 : (1048576 : Int) < (((xs0.length + sumLen xs0) : Nat) : Int) := by omega
  go_wp2_with fail
  refine (szInt64SS_no _ _ _ _ _ _ (hr0) (by omega) (by omega) k0 (by omega)).mono ?_
  rintro e w1 ⟨rfl, hb1⟩
  have r0_1 := (hr0).below hb1
  have z_1 : w.heap.size ≤ w1.heap.size := hb1.size
  have B_1 := (Below.refl w.heap.size w).trans (hb1.mono (by omega))
  go_wp2_with fail
  go_ret
  exact ⟨rfl, B_1⟩

set_option maxRecDepth 20000 in
set_option maxHeartbeats 4000000 in
theorem walk_IsReduced_core (A0 : Option Addr) (c0 : Nat) (xs0 : List (List Int)) (w : World) (hx0 : ArgC w A0 c0 xs0) (hsm : (xs0.length + sumLen xs0) ≤ 1048576) (v0 : Bool) 
    (hspec0 : ∀ (W : World) (B0 : Option Addr) (d0 T0 : Nat), RC W T0 B0 xs0 → Calls Try.prog 33 #[.slice B0 xs0.length d0] W (RetV W (.bool v0)))
    (himpl0 : ∀ (W : World) (B0 : Option Addr) (d0 T0 : Nat), RC W T0 B0 xs0 → Calls Try.prog 34 #[.slice B0 xs0.length d0] W (RetV W (.bool v0))) :
    Calls Try.prog 7 #[.slice A0 xs0.length c0] w fun e w' => e = .returned (.bool true) ∧ Below w.heap.size w w' := by
  obtain ⟨hl0, hm0, hr0, hi0⟩ := hx0
  have hspec := hide hspec0; have himpl := hide himpl0; clear hspec0 himpl0
  have hn0 : (xs0.length + sumLen xs0) ≤ 1048576 := by omega
  have hv0 : (v0 != v0) = false := by simp
  go_enter Try.func7, Try.ntmps7
  have k_0 : (((xs0.length + sumLen xs0) : Nat) : Int) ≤ 1048576 := by omega
  go_wp2_with fail
  refine (szInt64SS_ok _ _ _ _ _ _ (hr0) k_0 (by omega)).mono ?_
  rintro e w1 ⟨rfl, hb1⟩
  have r0_1 := (hr0).below hb1
  have z_1 : w.heap.size ≤ w1.heap.size := hb1.size
  have B_1 := (Below.refl w.heap.size w).trans (hb1.mono (by omega))
  have kk_0 : ¬ (1048576 - (((xs0.length + sumLen xs0) : Nat) : Int) < 0) := by omega
  go_wp2_with fail
  refine (toInt64SS_any _ _ xs0 _ _ (r0_1) hn0).mono ?_
  rintro e w2 ⟨E2, f2, rfl, t0_0_2, hb2⟩
  have r0_2 := (r0_1).below hb2
  have z_2 : w1.heap.size ≤ w2.heap.size := hb2.size
  have B_2 := (B_1).trans (hb2.mono (by omega))
  go_wp2_with fail
  refine (hspec.out _ _ _ _ ((t0_0_2).rd)).mono ?_
  rintro e w3 ⟨rfl, hb3⟩
  have r0_3 := (r0_2).below hb3
  have t0_0_3 := (t0_0_2).below hb3
  have z_3 : w2.heap.size ≤ w3.heap.size := hb3.size
  have B_3 := (B_2).trans (hb3.mono (by omega))
  go_wp2_with fail
  refine (toInt64SS_any _ _ xs0 _ _ (r0_3) hn0).mono ?_
  rintro e w4 ⟨E4, f4, rfl, t0_2_4, hb4⟩
  have r0_4 := (r0_3).below hb4
  have t0_0_4 := (t0_0_3).below hb4
  have z_4 : w3.heap.size ≤ w4.heap.size := hb4.size
  have B_4 := (B_3).trans (hb4.mono (by omega))
  go_wp2_with fail
  refine (himpl.out _ _ _ _ ((t0_2_4).rd)).mono ?_
  rintro e w5 ⟨rfl, hb5⟩
  have r0_5 := (r0_4).below hb5
  have t0_0_5 := (t0_0_4).below hb5
  have t0_2_5 := (t0_2_4).below hb5
  have z_5 : w4.heap.size ≤ w5.heap.size := hb5.size
  have B_5 := (B_4).trans (hb5.mono (by omega))
  go_wp2_with fail
  refine (toInt64SS_any _ _ xs0 _ _ (r0_5) hn0).mono ?_
  rintro e w6 ⟨E6, f6, rfl, t0_4_6, hb6⟩
  have r0_6 := (r0_5).below hb6
  have t0_0_6 := (t0_0_5).below hb6
  have t0_2_6 := (t0_2_5).below hb6
  have z_6 : w5.heap.size ≤ w6.heap.size := hb6.size
  have B_6 := (B_5).trans (hb6.mono (by omega))
  go_wp2_with fail
  refine (eqInt64SS_any _ _ _ _ xs0 xs0 _ _ _ ((t0_2_6).rd) ((t0_4_6).rd) hn0 hn0).mono ?_
  rintro e w7 ⟨rfl, hb7⟩
  have r0_7 := (r0_6).below hb7
  have t0_0_7 := (t0_0_6).below hb7
  have t0_2_7 := (t0_2_6).below hb7
  have t0_4_7 := (t0_4_6).below hb7
  have z_7 : w6.heap.size ≤ w7.heap.size := hb7.size
  have B_7 := (B_6).trans (hb7.mono (by omega))
  go_wp2_with fail
  go_ret
  exact ⟨rfl, B_7⟩

theorem walk_IsReduced_of (A0 : Option Addr) (c0 : Nat) (xs0 : List (List Int)) (w : World) (hx0 : ArgC w A0 c0 xs0)
    (h : (xs0.length + sumLen xs0) ≤ 1048576 → ∃ (v0 : Bool), (∀ (W : World) (B0 : Option Addr) (d0 T0 : Nat), RC W T0 B0 xs0 → Calls Try.prog 33 #[.slice B0 xs0.length d0] W (RetV W (.bool v0))) ∧ (∀ (W : World) (B0 : Option Addr) (d0 T0 : Nat), RC W T0 B0 xs0 → Calls Try.prog 34 #[.slice B0 xs0.length d0] W (RetV W (.bool v0)))) :
    Calls Try.prog 7 #[.slice A0 xs0.length c0] w fun e w' => e = .returned (.bool true) ∧ Below w.heap.size w w' := by
  by_cases hs : (xs0.length + sumLen xs0) ≤ 1048576
  · obtain ⟨v0, h1, h2⟩ := h hs
    exact walk_IsReduced_core A0 c0 xs0 w hx0 hs v0  h1 h2
  · exact walk_IsReduced_big0 A0 c0 xs0 w hx0 (by omega)

end Go.Proofs.Ytenbjfkmfcbdiaa
