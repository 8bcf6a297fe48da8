/-
  The core of the walk of the law FnExactMulPolys: the law answers true wherever the two functions hand back the same. Conditions: the two functions' contracts, given as hypotheses.
-/
import Derived.Test.YthbhppbcbpllcaaPolyEq
import Derived.Test.YthbhppbcbpllcaaOpen
import Derived.Test.YthbhppbcbpllcaaPolyTrim
import Derived.Deep.DeepCutAuto
import Derived.Deep.RegionHeld3
namespace Go.Proofs.Ythbhppbcbpllcaa
open Go.RowKit
set_option linter.unusedVariables false

set_option maxHeartbeats 1000000 in
theorem walk_MulPolys_big0 (l0 : Int) (A0 : Option Addr) (c0 : Nat) (xs0 : List Int) (l1 : Int) (A1 : Option Addr) (c1 : Nat) (xs1 : List Int) (w : World) (hx0 : ArgI w A0 c0 xs0) (hx1 : ArgI w A1 c1 xs1)  (hno : 1048576 < xs0.length) :
    Calls Try.prog 10 #[.agg #[.int .i64 l0, .slice A0 xs0.length c0], .agg #[.int .i64 l1, .slice A1 xs1.length c1]] w fun e w' => e = .returned (.bool true) ∧ Below w.heap.size w w' := by
  obtain ⟨hl0, hm0, hr0, hi0⟩ := hx0
  obtain ⟨hl1, hm1, hr1, hi1⟩ := hx1
  go_enter Try.func10, Try.ntmps10
  go_wp2_with fail
  have k0 : (1048576 : Int) < ((xs0.length : Nat) : Int) := by omega
  refine (szPoly_no _ _ _ _ _ _ (by omega) k0 (by omega)).mono ?_
  rintro e w1 ⟨rfl, hb1⟩
  have r0_1 := (((hr0).alloc (.cells #[.int .i64 l0, .slice A0 xs0.length c0] 26)).alloc (.cells #[.int .i64 l1, .slice A1 xs1.length c1] 26)).below hb1
  have r1_1 := (((hr1).alloc (.cells #[.int .i64 l0, .slice A0 xs0.length c0] 26)).alloc (.cells #[.int .i64 l1, .slice A1 xs1.length c1] 26)).below hb1
  have p0_1 := ((Bx.new_ w (w.heap.size) 26 #[.int .i64 l0, .slice A0 xs0.length c0] (by simp)).alloc (.cells #[.int .i64 l1, .slice A1 xs1.length c1] 26)).below hb1
  obtain ⟨p0a_1, p0b_1⟩ := p0_1.two
  have p1_1 := (Bx.new_ (w.alloc (.cells #[.int .i64 l0, .slice A0 xs0.length c0] 26)) (w.heap.size + 1) 26 #[.int .i64 l1, .slice A1 xs1.length c1] (by simp)).below hb1
  obtain ⟨p1a_1, p1b_1⟩ := p1_1.two
  have z_1 : ((w.alloc (.cells #[.int .i64 l0, .slice A0 xs0.length c0] 26)).alloc (.cells #[.int .i64 l1, .slice A1 xs1.length c1] 26)).heap.size ≤ w1.heap.size := hb1.size
  simp only [World.size_alloc] at z_1
  have B_1 := (((Below.refl w.heap.size w).alloc (by first | omega | (simp; omega) | simp) (.cells #[.int .i64 l0, .slice A0 xs0.length c0] 26)).alloc (by first | omega | (simp; omega) | simp) (.cells #[.int .i64 l1, .slice A1 xs1.length c1] 26)).trans (hb1.mono (by first | omega | (simp; omega) | simp))
  go_wp2_with fail
  go_ret
  exact ⟨rfl, B_1⟩

set_option maxHeartbeats 1000000 in
theorem walk_MulPolys_big1 (l0 : Int) (A0 : Option Addr) (c0 : Nat) (xs0 : List Int) (l1 : Int) (A1 : Option Addr) (c1 : Nat) (xs1 : List Int) (w : World) (hx0 : ArgI w A0 c0 xs0) (hx1 : ArgI w A1 c1 xs1) (hs0 : xs0.length ≤ 1048576) (hno : 1048576 < xs0.length + xs1.length) :
    Calls Try.prog 10 #[.agg #[.int .i64 l0, .slice A0 xs0.length c0], .agg #[.int .i64 l1, .slice A1 xs1.length c1]] w fun e w' => e = .returned (.bool true) ∧ Below w.heap.size w w' := by
  obtain ⟨hl0, hm0, hr0, hi0⟩ := hx0
  obtain ⟨hl1, hm1, hr1, hi1⟩ := hx1
  go_enter Try.func10, Try.ntmps10
  go_wp2_with fail
  have k0 : ((xs0.length : Nat) : Int) ≤ 1048576 := by omega
  refine (szPoly_ok _ _ _ _ _ _ k0 (by omega)).mono ?_
  rintro e w1 ⟨rfl, hb1⟩
  have r0_1 := (((hr0).alloc (.cells #[.int .i64 l0, .slice A0 xs0.length c0] 26)).alloc (.cells #[.int .i64 l1, .slice A1 xs1.length c1] 26)).below hb1
  have r1_1 := (((hr1).alloc (.cells #[.int .i64 l0, .slice A0 xs0.length c0] 26)).alloc (.cells #[.int .i64 l1, .slice A1 xs1.length c1] 26)).below hb1
  have p0_1 := ((Bx.new_ w (w.heap.size) 26 #[.int .i64 l0, .slice A0 xs0.length c0] (by simp)).alloc (.cells #[.int .i64 l1, .slice A1 xs1.length c1] 26)).below hb1
  obtain ⟨p0a_1, p0b_1⟩ := p0_1.two
  have p1_1 := (Bx.new_ (w.alloc (.cells #[.int .i64 l0, .slice A0 xs0.length c0] 26)) (w.heap.size + 1) 26 #[.int .i64 l1, .slice A1 xs1.length c1] (by simp)).below hb1
  obtain ⟨p1a_1, p1b_1⟩ := p1_1.two
  have z_1 : ((w.alloc (.cells #[.int .i64 l0, .slice A0 xs0.length c0] 26)).alloc (.cells #[.int .i64 l1, .slice A1 xs1.length c1] 26)).heap.size ≤ w1.heap.size := hb1.size
  simp only [World.size_alloc] at z_1
  have B_1 := (((Below.refl w.heap.size w).alloc (by first | omega | (simp; omega) | simp) (.cells #[.int .i64 l0, .slice A0 xs0.length c0] 26)).alloc (by first | omega | (simp; omega) | simp) (.cells #[.int .i64 l1, .slice A1 xs1.length c1] 26)).trans (hb1.mono (by first | omega | (simp; omega) | simp))
  go_wp2_with fail
  have k1 : (1048576 - (xs0.length : Int) : Int) < ((xs1.length : Nat) : Int) := by omega
  refine (szPoly_no _ _ _ _ _ _ (by omega) k1 (by omega)).mono ?_
  rintro e w2 ⟨rfl, hb2⟩
  have r0_2 := (r0_1).below hb2
  have r1_2 := (r1_1).below hb2
  have p0_2 := (p0_1).below hb2
  obtain ⟨p0a_2, p0b_2⟩ := p0_2.two
  have p1_2 := (p1_1).below hb2
  obtain ⟨p1a_2, p1b_2⟩ := p1_2.two
  have z_2 : w1.heap.size ≤ w2.heap.size := hb2.size
  have B_2 := (B_1).trans (hb2.mono (by first | omega | (simp; omega) | simp))
  go_wp2_with fail
  go_ret
  exact ⟨rfl, B_2⟩

set_option maxRecDepth 20000 in
set_option maxHeartbeats 4000000 in
theorem walk_MulPolys_core (l0 : Int) (A0 : Option Addr) (c0 : Nat) (xs0 : List Int) (l1 : Int) (A1 : Option Addr) (c1 : Nat) (xs1 : List Int) (w : World) (hx0 : ArgI w A0 c0 xs0) (hx1 : ArgI w A1 c1 xs1) (hsm : xs0.length + xs1.length ≤ 1048576) (L0 : Int) (X0 : List Int) (v1 : Int) (hX0 : X0.length ≤ 1048576)
    (hspec0 : ∀ (W : World) (B0 : Option Addr) (d0 : Nat) (B1 : Option Addr) (d1 : Nat), RI W B0 xs0 → (xs0.length ≤ d0 ∧ d0 ≤ 9223372036854775807) → RI W B1 xs1 → (xs1.length ≤ d1 ∧ d1 ≤ 9223372036854775807) → Calls Try.prog 33 #[.agg #[.int .i64 l0, .slice B0 xs0.length d0], .agg #[.int .i64 l1, .slice B1 xs1.length d1]] W (RetPC W L0 X0 v1))
    (himpl0 : ∀ (W : World) (B0 : Option Addr) (d0 : Nat) (B1 : Option Addr) (d1 : Nat), RI W B0 xs0 → (xs0.length ≤ d0 ∧ d0 ≤ 9223372036854775807) → RI W B1 xs1 → (xs1.length ≤ d1 ∧ d1 ≤ 9223372036854775807) → Calls Try.prog 34 #[.agg #[.int .i64 l0, .slice B0 xs0.length d0], .agg #[.int .i64 l1, .slice B1 xs1.length d1]] W (RetPC W L0 X0 v1)) :
    Calls Try.prog 10 #[.agg #[.int .i64 l0, .slice A0 xs0.length c0], .agg #[.int .i64 l1, .slice A1 xs1.length c1]] w fun e w' => e = .returned (.bool true) ∧ Below w.heap.size w w' := by
  obtain ⟨hl0, hm0, hr0, hi0⟩ := hx0
  obtain ⟨hl1, hm1, hr1, hi1⟩ := hx1
  have hspec := hide hspec0; have himpl := hide himpl0; clear hspec0 himpl0
  have hn0 : xs0.length ≤ 1048576 := by omega
  have hn1 : xs1.length ≤ 1048576 := by omega
  have hv1 : (v1 != v1) = false := by simp
  go_enter Try.func10, Try.ntmps10
  go_wp2_with fail
  have k_0 : ((xs0.length : Nat) : Int) ≤ 1048576 := by omega
  refine (szPoly_ok _ _ _ _ _ _ k_0 (by omega)).mono ?_
  rintro e w1 ⟨rfl, hb1⟩
  have r0_1 := (((hr0).alloc (.cells #[.int .i64 l0, .slice A0 xs0.length c0] 26)).alloc (.cells #[.int .i64 l1, .slice A1 xs1.length c1] 26)).below hb1
  have r1_1 := (((hr1).alloc (.cells #[.int .i64 l0, .slice A0 xs0.length c0] 26)).alloc (.cells #[.int .i64 l1, .slice A1 xs1.length c1] 26)).below hb1
  have p0_1 := ((Bx.new_ w (w.heap.size) 26 #[.int .i64 l0, .slice A0 xs0.length c0] (by simp)).alloc (.cells #[.int .i64 l1, .slice A1 xs1.length c1] 26)).below hb1
  obtain ⟨p0a_1, p0b_1⟩ := p0_1.two
  have p1_1 := (Bx.new_ (w.alloc (.cells #[.int .i64 l0, .slice A0 xs0.length c0] 26)) (w.heap.size + 1) 26 #[.int .i64 l1, .slice A1 xs1.length c1] (by simp)).below hb1
  obtain ⟨p1a_1, p1b_1⟩ := p1_1.two
  have z_1 : ((w.alloc (.cells #[.int .i64 l0, .slice A0 xs0.length c0] 26)).alloc (.cells #[.int .i64 l1, .slice A1 xs1.length c1] 26)).heap.size ≤ w1.heap.size := hb1.size
  simp only [World.size_alloc] at z_1
  have B_1 := (((Below.refl w.heap.size w).alloc (by first | omega | (simp; omega) | simp) (.cells #[.int .i64 l0, .slice A0 xs0.length c0] 26)).alloc (by first | omega | (simp; omega) | simp) (.cells #[.int .i64 l1, .slice A1 xs1.length c1] 26)).trans (hb1.mono (by first | omega | (simp; omega) | simp))
  have kk_1 : ¬ (1048576 - (xs0.length : Int) < 0) := by omega
  go_wp2_with fail
  have k_1 : ((xs1.length : Nat) : Int) ≤ 1048576 - (xs0.length : Int) := by omega
  refine (szPoly_ok _ _ _ _ _ _ k_1 (by omega)).mono ?_
  rintro e w2 ⟨rfl, hb2⟩
  have r0_2 := (r0_1).below hb2
  have r1_2 := (r1_1).below hb2
  have p0_2 := (p0_1).below hb2
  obtain ⟨p0a_2, p0b_2⟩ := p0_2.two
  have p1_2 := (p1_1).below hb2
  obtain ⟨p1a_2, p1b_2⟩ := p1_2.two
  have z_2 : w1.heap.size ≤ w2.heap.size := hb2.size
  have B_2 := (B_1).trans (hb2.mono (by first | omega | (simp; omega) | simp))
  have kk_2 : ¬ (1048576 - (xs0.length : Int) - (xs1.length : Int) < 0) := by omega
  go_upto_region 8 with fail
  go_cut [6, 7] (fun s6 s7 wx => ∃ (G : Nat) (E : Option Addr) (f : Nat), s6 = .pointer (some ⟨G, 0, none⟩) ∧ s7 = .int .i64 v1 ∧ Below w2.heap.size w2 wx ∧ w2.heap.size ≤ G ∧ Bx wx G 29 #[.int .i64 L0, .slice E X0.length f] ∧ OwnI wx w2.heap.size E f X0)
  case first =>
    have BS : Below w2.heap.size w2 w2.drew := (Below.refl w2.heap.size w2).drew
    have keepS : Hid (∀ W, Below w2.heap.size w2 W → (fun w' : World => w'.cell? ⟨w.heap.size, 0, none⟩ = some (.int .i64 l0) ∧ w'.cell? ⟨w.heap.size, 1, none⟩ = some (.slice A0 xs0.length c0) ∧ w'.cell? ⟨w.heap.size + 1, 0, none⟩ = some (.int .i64 l1) ∧ w'.cell? ⟨w.heap.size + 1, 1, none⟩ = some (.slice A1 xs1.length c1)) W) := hide (fun W hW => ⟨((p0_2).below hW).two.1, ((p0_2).below hW).two.2, ((p1_2).below hW).two.1, ((p1_2).below hW).two.2⟩)
    go_region_held3 (fun w' => w'.cell? ⟨w.heap.size, 0, none⟩ = some (.int .i64 l0) ∧ w'.cell? ⟨w.heap.size, 1, none⟩ = some (.slice A0 xs0.length c0) ∧ w'.cell? ⟨w.heap.size + 1, 0, none⟩ = some (.int .i64 l1) ∧ w'.cell? ⟨w.heap.size + 1, 1, none⟩ = some (.slice A1 xs1.length c1)) (exact keepS.out _ (by first | exact B5 | exact B5.alloc (Below.size B5) _ | exact B4 | exact B4.alloc (Below.size B4) _ | exact B3 | exact B3.alloc (Below.size B3) _ | exact BS | exact BS.alloc (Below.size BS) _ | exact ((B5).setCell (Below.size B5) _).setCell (Below.size B5) _ | exact ((B5).setCell (Below.size B4) _).setCell (Below.size B4) _ | exact ((B5).setCell (Below.size B3) _).setCell (Below.size B3) _ | exact ((B5).setCell (Below.size BS) _).setCell (Below.size BS) _ | exact ((B5.alloc (Below.size B5) _).setCell (Below.size B5) _).setCell (Below.size B5) _)) (first | (go_at_call_of 18 (Value.agg #[.int .i64 l0, .slice A0 xs0.length c0]); refine (toPoly_any _ _ _ xs0 _ ((r0_2).below (by first | exact BS | exact BS.alloc (Below.size BS) _)) hn0).mono ?_; rintro e w3 ⟨E3, f3, rfl, t0_3, hb3⟩; have B3 : Below w2.heap.size w2 w3 := Below.trans (by first | exact BS | exact BS.alloc (Below.size BS) _) (hb3.mono (by first | exact (Below.size BS) | exact (BS.alloc (Below.size BS) _).size)); (try (have box3 := (Bx.new _ _ _).below hb3; (try simp only [World.size_drew] at box3); obtain ⟨ba3, bb3⟩ := box3.two; have bf3 := box3.frozen 0; have bg3 := box3.frozen 1)); (try (have box3 := ((Bx.new _ _ _).drew).below hb3; (try simp only [World.size_drew] at box3); obtain ⟨ba3, bb3⟩ := box3.two; have bf3 := box3.frozen 0; have bg3 := box3.frozen 1))) | (go_at_call_of 18 (Value.agg #[.int .i64 l1, .slice A1 xs1.length c1]); refine (toPoly_any _ _ _ xs1 _ ((r1_2).below (by first | exact B3 | exact B3.alloc (Below.size B3) _ | exact BS | exact BS.alloc (Below.size BS) _)) hn1).mono ?_; rintro e w4 ⟨E4, f4, rfl, t1_4, hb4⟩; have B4 : Below w2.heap.size w2 w4 := Below.trans (by first | exact B3 | exact B3.alloc (Below.size B3) _ | exact BS | exact BS.alloc (Below.size BS) _) (hb4.mono (by first | exact (Below.size B3) | exact (B3.alloc (Below.size B3) _).size | exact (Below.size BS) | exact (BS.alloc (Below.size BS) _).size)); have t0_4 := (by first | exact (t0_3).below hb4 | exact ((t0_3).alloc _).below hb4); (try (have box4 := (Bx.new _ _ _).below hb4; (try simp only [World.size_drew] at box4); obtain ⟨ba4, bb4⟩ := box4.two; have bf4 := box4.frozen 0; have bg4 := box4.frozen 1)); (try (have box4 := ((Bx.new _ _ _).drew).below hb4; (try simp only [World.size_drew] at box4); obtain ⟨ba4, bb4⟩ := box4.two; have bf4 := box4.frozen 0; have bg4 := box4.frozen 1)); (try (have box4 := box3.below hb4; obtain ⟨ba4, bb4⟩ := box4.two; have bf4 := box4.frozen 0; have bg4 := box4.frozen 1))) | (go_at_call 33; refine (hspec.out _ _ _ _ _ (by first | exact (t0_4).rd | exact ((t0_4).alloc _).rd) (t0_4).cap_ (by first | exact (t1_4).rd | exact ((t1_4).alloc _).rd) (t1_4).cap_).mono ?_; rintro e w5 ⟨E5, f5, rfl, g_5, hb5⟩; have B5 : Below w2.heap.size w2 w5 := Below.trans (by first | exact B4 | exact B4.alloc (Below.size B4) _ | exact B3 | exact B3.alloc (Below.size B3) _ | exact BS | exact BS.alloc (Below.size BS) _) (hb5.mono (by first | exact (Below.size B4) | exact (B4.alloc (Below.size B4) _).size | exact (Below.size B3) | exact (B3.alloc (Below.size B3) _).size | exact (Below.size BS) | exact (BS.alloc (Below.size BS) _).size)); have t0_5 := (by first | exact (t0_4).below hb5 | exact ((t0_4).alloc _).below hb5); have t1_5 := (by first | exact (t1_4).below hb5 | exact ((t1_4).alloc _).below hb5); (try (have box5 := (Bx.new _ _ _).below hb5; (try simp only [World.size_drew] at box5); obtain ⟨ba5, bb5⟩ := box5.two; have bf5 := box5.frozen 0; have bg5 := box5.frozen 1)); (try (have box5 := ((Bx.new _ _ _).drew).below hb5; (try simp only [World.size_drew] at box5); obtain ⟨ba5, bb5⟩ := box5.two; have bf5 := box5.frozen 0; have bg5 := box5.frozen 1)); (try (have box5 := box4.below hb5; obtain ⟨ba5, bb5⟩ := box5.two; have bf5 := box5.frozen 0; have bg5 := box5.frozen 1)); have gg_5 := (g_5).mono (show w2.heap.size ≤ _ by first | exact (Below.size B4) | exact (B4.alloc (Below.size B4) _).size | exact (Below.size B3) | exact (B3.alloc (Below.size B3) _).size | exact (Below.size BS) | exact (BS.alloc (Below.size BS) _).size)))
    all_goals go_wp2_with fail
    all_goals go_meet
    all_goals first
      | exact ⟨_, _, _, rfl, rfl, B5.alloc (Below.size B5) _, Below.size B5, Bx.new _ _ _, gg_5.alloc _⟩
      | exact ⟨_, _, _, rfl, rfl, (B5.setCell (by first | exact Nat.le_refl _ | exact Below.size B5 | exact Below.size B4 | exact Below.size B3 | exact Below.size BS) _).setCell (by first | exact Nat.le_refl _ | exact Below.size B5 | exact Below.size B4 | exact Below.size B3 | exact Below.size BS) _, (by first | exact Nat.le_refl _ | exact Below.size B5 | exact Below.size B4 | exact Below.size B3 | exact Below.size BS), (box5.set_ 0 _).set_ 1 _, ((g_5.setLow (by first | exact box4.lt | simp) _).setLow (by first | exact box4.lt | simp) _).mono (show w2.heap.size ≤ _ by first | exact (Below.size B4) | exact (B4.alloc (Below.size B4) _).size | exact (Below.size B3) | exact (B3.alloc (Below.size B3) _).size | exact (Below.size BS) | exact (BS.alloc (Below.size BS) _).size)⟩
  case rest =>
    obtain ⟨G5, E5, f5, rfl, rfl, hb5, hG5, bx5, g_5⟩ := hcut
    obtain ⟨w5, rfl⟩ : ∃ w5 : World, w5 = wc := ⟨_, rfl⟩
    have r0_5 := (r0_2).below hb5
    have r1_5 := (r1_2).below hb5
    have p0_5 := (p0_2).below hb5
    obtain ⟨p0a_5, p0b_5⟩ := p0_5.two
    have p1_5 := (p1_2).below hb5
    obtain ⟨p1a_5, p1b_5⟩ := p1_5.two
    have z_5 : w2.heap.size ≤ w5.heap.size := hb5.size
    have B_5 := (B_2).trans (hb5.mono (by first | omega | (simp; omega) | simp))
    have g_0_5 := g_5
    have w0_5 := bx5
    obtain ⟨w0a_5, w0b_5⟩ := w0_5.two
    go_wp2_with fail
    refine (toPoly_any _ _ _ xs0 _ (r0_5) hn0).mono ?_
    rintro e w6 ⟨E6, f6, rfl, t0_1_6, hb6⟩
    have r0_6 := (r0_5).below hb6
    have r1_6 := (r1_5).below hb6
    have p0_6 := (p0_5).below hb6
    obtain ⟨p0a_6, p0b_6⟩ := p0_6.two
    have p1_6 := (p1_5).below hb6
    obtain ⟨p1a_6, p1b_6⟩ := p1_6.two
    have g_0_6 := (g_0_5).below hb6
    have w0_6 := (w0_5).below hb6
    obtain ⟨w0a_6, w0b_6⟩ := w0_6.two
    have z_6 : w5.heap.size ≤ w6.heap.size := hb6.size
    have B_6 := (B_5).trans (hb6.mono (by first | omega | (simp; omega) | simp))
    obtain ⟨p0a_6x3, p0b_6x3⟩ := ((p0_6).alloc (.cells #[.int .i64 l0, .slice E6 xs0.length f6] 29)).two
    obtain ⟨p1a_6x3, p1b_6x3⟩ := ((p1_6).alloc (.cells #[.int .i64 l0, .slice E6 xs0.length f6] 29)).two
    obtain ⟨w0a_6x3, w0b_6x3⟩ := ((w0_6).alloc (.cells #[.int .i64 l0, .slice E6 xs0.length f6] 29)).two
    obtain ⟨x0a_6x3, x0b_6x3⟩ := (Bx.new_ w6 (w6.heap.size) 29 #[.int .i64 l0, .slice E6 xs0.length f6] (by simp)).two
    go_wp2_with fail
    refine (toPoly_any _ _ _ xs1 _ ((r1_6).alloc (.cells #[.int .i64 l0, .slice E6 xs0.length f6] 29)) hn1).mono ?_
    rintro e w7 ⟨E7, f7, rfl, t1_3_7, hb7⟩
    have r0_7 := ((r0_6).alloc (.cells #[.int .i64 l0, .slice E6 xs0.length f6] 29)).below hb7
    have r1_7 := ((r1_6).alloc (.cells #[.int .i64 l0, .slice E6 xs0.length f6] 29)).below hb7
    have p0_7 := ((p0_6).alloc (.cells #[.int .i64 l0, .slice E6 xs0.length f6] 29)).below hb7
    obtain ⟨p0a_7, p0b_7⟩ := p0_7.two
    have p1_7 := ((p1_6).alloc (.cells #[.int .i64 l0, .slice E6 xs0.length f6] 29)).below hb7
    obtain ⟨p1a_7, p1b_7⟩ := p1_7.two
    have g_0_7 := ((g_0_6).alloc (.cells #[.int .i64 l0, .slice E6 xs0.length f6] 29)).below hb7
    have w0_7 := ((w0_6).alloc (.cells #[.int .i64 l0, .slice E6 xs0.length f6] 29)).below hb7
    obtain ⟨w0a_7, w0b_7⟩ := w0_7.two
    have t0_1_7 := ((t0_1_6).alloc (.cells #[.int .i64 l0, .slice E6 xs0.length f6] 29)).below hb7
    have x0_7 := (Bx.new_ w6 (w6.heap.size) 29 #[.int .i64 l0, .slice E6 xs0.length f6] (by simp)).below hb7
    obtain ⟨x0a_7, x0b_7⟩ := x0_7.two
    have z_7 : (w6.alloc (.cells #[.int .i64 l0, .slice E6 xs0.length f6] 29)).heap.size ≤ w7.heap.size := hb7.size
    simp only [World.size_alloc] at z_7
    have B_7 := ((B_6).alloc (by first | omega | (simp; omega) | simp) (.cells #[.int .i64 l0, .slice E6 xs0.length f6] 29)).trans (hb7.mono (by first | omega | (simp; omega) | simp))
    obtain ⟨p0a_7x5, p0b_7x5⟩ := ((p0_7).alloc (.cells #[.int .i64 l1, .slice E7 xs1.length f7] 29)).two
    obtain ⟨p1a_7x5, p1b_7x5⟩ := ((p1_7).alloc (.cells #[.int .i64 l1, .slice E7 xs1.length f7] 29)).two
    obtain ⟨w0a_7x5, w0b_7x5⟩ := ((w0_7).alloc (.cells #[.int .i64 l1, .slice E7 xs1.length f7] 29)).two
    obtain ⟨x0a_7x5, x0b_7x5⟩ := ((x0_7).alloc (.cells #[.int .i64 l1, .slice E7 xs1.length f7] 29)).two
    obtain ⟨x1a_7x5, x1b_7x5⟩ := (Bx.new_ w7 (w7.heap.size) 29 #[.int .i64 l1, .slice E7 xs1.length f7] (by simp)).two
    go_wp2_with fail
    refine (himpl.out _ _ _ _ _ (((t0_1_7).alloc (.cells #[.int .i64 l1, .slice E7 xs1.length f7] 29)).rd) ((t0_1_7).alloc (.cells #[.int .i64 l1, .slice E7 xs1.length f7] 29)).cap_ (((t1_3_7).alloc (.cells #[.int .i64 l1, .slice E7 xs1.length f7] 29)).rd) ((t1_3_7).alloc (.cells #[.int .i64 l1, .slice E7 xs1.length f7] 29)).cap_).mono ?_
    rintro e w8 ⟨E8, f8, rfl, g_5_8, hb8⟩
    have r0_8 := ((r0_7).alloc (.cells #[.int .i64 l1, .slice E7 xs1.length f7] 29)).below hb8
    have r1_8 := ((r1_7).alloc (.cells #[.int .i64 l1, .slice E7 xs1.length f7] 29)).below hb8
    have p0_8 := ((p0_7).alloc (.cells #[.int .i64 l1, .slice E7 xs1.length f7] 29)).below hb8
    obtain ⟨p0a_8, p0b_8⟩ := p0_8.two
    have p1_8 := ((p1_7).alloc (.cells #[.int .i64 l1, .slice E7 xs1.length f7] 29)).below hb8
    obtain ⟨p1a_8, p1b_8⟩ := p1_8.two
    have g_0_8 := ((g_0_7).alloc (.cells #[.int .i64 l1, .slice E7 xs1.length f7] 29)).below hb8
    have w0_8 := ((w0_7).alloc (.cells #[.int .i64 l1, .slice E7 xs1.length f7] 29)).below hb8
    obtain ⟨w0a_8, w0b_8⟩ := w0_8.two
    have t0_1_8 := ((t0_1_7).alloc (.cells #[.int .i64 l1, .slice E7 xs1.length f7] 29)).below hb8
    have x0_8 := ((x0_7).alloc (.cells #[.int .i64 l1, .slice E7 xs1.length f7] 29)).below hb8
    obtain ⟨x0a_8, x0b_8⟩ := x0_8.two
    have t1_3_8 := ((t1_3_7).alloc (.cells #[.int .i64 l1, .slice E7 xs1.length f7] 29)).below hb8
    have x1_8 := (Bx.new_ w7 (w7.heap.size) 29 #[.int .i64 l1, .slice E7 xs1.length f7] (by simp)).below hb8
    obtain ⟨x1a_8, x1b_8⟩ := x1_8.two
    have z_8 : (w7.alloc (.cells #[.int .i64 l1, .slice E7 xs1.length f7] 29)).heap.size ≤ w8.heap.size := hb8.size
    simp only [World.size_alloc] at z_8
    have B_8 := ((B_7).alloc (by first | omega | (simp; omega) | simp) (.cells #[.int .i64 l1, .slice E7 xs1.length f7] 29)).trans (hb8.mono (by first | omega | (simp; omega) | simp))
    obtain ⟨p0a_8x7, p0b_8x7⟩ := ((p0_8).alloc (.cells #[.int .i64 L0, .slice E8 X0.length f8] 29)).two
    obtain ⟨p1a_8x7, p1b_8x7⟩ := ((p1_8).alloc (.cells #[.int .i64 L0, .slice E8 X0.length f8] 29)).two
    obtain ⟨w0a_8x7, w0b_8x7⟩ := ((w0_8).alloc (.cells #[.int .i64 L0, .slice E8 X0.length f8] 29)).two
    obtain ⟨x0a_8x7, x0b_8x7⟩ := ((x0_8).alloc (.cells #[.int .i64 L0, .slice E8 X0.length f8] 29)).two
    obtain ⟨x1a_8x7, x1b_8x7⟩ := ((x1_8).alloc (.cells #[.int .i64 L0, .slice E8 X0.length f8] 29)).two
    obtain ⟨g0a_8x7, g0b_8x7⟩ := (Bx.new_ w8 (w8.heap.size) 29 #[.int .i64 L0, .slice E8 X0.length f8] (by simp)).two
    go_wp2_with fail
    refine (eqPoly_any _ _ _ _ _ _ X0 X0 _ (((g_5_8).alloc (.cells #[.int .i64 L0, .slice E8 X0.length f8] 29)).rd) (((g_0_8).alloc (.cells #[.int .i64 L0, .slice E8 X0.length f8] 29)).rd) hX0 hX0).mono ?_
    rintro e w9 ⟨rfl, hb9⟩
    have r0_9 := ((r0_8).alloc (.cells #[.int .i64 L0, .slice E8 X0.length f8] 29)).below hb9
    have r1_9 := ((r1_8).alloc (.cells #[.int .i64 L0, .slice E8 X0.length f8] 29)).below hb9
    have p0_9 := ((p0_8).alloc (.cells #[.int .i64 L0, .slice E8 X0.length f8] 29)).below hb9
    obtain ⟨p0a_9, p0b_9⟩ := p0_9.two
    have p1_9 := ((p1_8).alloc (.cells #[.int .i64 L0, .slice E8 X0.length f8] 29)).below hb9
    obtain ⟨p1a_9, p1b_9⟩ := p1_9.two
    have g_0_9 := ((g_0_8).alloc (.cells #[.int .i64 L0, .slice E8 X0.length f8] 29)).below hb9
    have w0_9 := ((w0_8).alloc (.cells #[.int .i64 L0, .slice E8 X0.length f8] 29)).below hb9
    obtain ⟨w0a_9, w0b_9⟩ := w0_9.two
    have t0_1_9 := ((t0_1_8).alloc (.cells #[.int .i64 L0, .slice E8 X0.length f8] 29)).below hb9
    have x0_9 := ((x0_8).alloc (.cells #[.int .i64 L0, .slice E8 X0.length f8] 29)).below hb9
    obtain ⟨x0a_9, x0b_9⟩ := x0_9.two
    have t1_3_9 := ((t1_3_8).alloc (.cells #[.int .i64 L0, .slice E8 X0.length f8] 29)).below hb9
    have x1_9 := ((x1_8).alloc (.cells #[.int .i64 L0, .slice E8 X0.length f8] 29)).below hb9
    obtain ⟨x1a_9, x1b_9⟩ := x1_9.two
    have g_5_9 := ((g_5_8).alloc (.cells #[.int .i64 L0, .slice E8 X0.length f8] 29)).below hb9
    have g0_9 := (Bx.new_ w8 (w8.heap.size) 29 #[.int .i64 L0, .slice E8 X0.length f8] (by simp)).below hb9
    obtain ⟨g0a_9, g0b_9⟩ := g0_9.two
    have z_9 : (w8.alloc (.cells #[.int .i64 L0, .slice E8 X0.length f8] 29)).heap.size ≤ w9.heap.size := hb9.size
    simp only [World.size_alloc] at z_9
    have B_9 := ((B_8).alloc (by first | omega | (simp; omega) | simp) (.cells #[.int .i64 L0, .slice E8 X0.length f8] 29)).trans (hb9.mono (by first | omega | (simp; omega) | simp))
    go_wp2_with fail
    go_region_held3 (fun w' => w'.cell? ⟨w.heap.size, 0, none⟩ = some (.int .i64 l0) ∧ w'.cell? ⟨w.heap.size, 1, none⟩ = some (.slice A0 xs0.length c0) ∧ w'.cell? ⟨w.heap.size + 1, 0, none⟩ = some (.int .i64 l1) ∧ w'.cell? ⟨w.heap.size + 1, 1, none⟩ = some (.slice A1 xs1.length c1) ∧ w'.cell? ⟨G5, 0, none⟩ = some (.int .i64 L0) ∧ w'.cell? ⟨G5, 1, none⟩ = some (.slice E5 X0.length f5) ∧ w'.cell? ⟨w6.heap.size, 0, none⟩ = some (.int .i64 l0) ∧ w'.cell? ⟨w6.heap.size, 1, none⟩ = some (.slice E6 xs0.length f6) ∧ w'.cell? ⟨w7.heap.size, 0, none⟩ = some (.int .i64 l1) ∧ w'.cell? ⟨w7.heap.size, 1, none⟩ = some (.slice E7 xs1.length f7) ∧ w'.cell? ⟨w8.heap.size, 0, none⟩ = some (.int .i64 L0) ∧ w'.cell? ⟨w8.heap.size, 1, none⟩ = some (.slice E8 X0.length f8)) (first | exact ⟨p0a_9, p0b_9, p1a_9, p1b_9, w0a_9, w0b_9, x0a_9, x0b_9, x1a_9, x1b_9, g0a_9, g0b_9⟩ | exact ⟨p0a_10, p0b_10, p1a_10, p1b_10, w0a_10, w0b_10, x0a_10, x0b_10, x1a_10, x1b_10, g0a_10, g0b_10⟩ | exact ⟨p0a_11, p0b_11, p1a_11, p1b_11, w0a_11, w0b_11, x0a_11, x0b_11, x1a_11, x1b_11, g0a_11, g0b_11⟩ | exact ⟨((p0_11).alloc _).two.1, ((p0_11).alloc _).two.2, ((p1_11).alloc _).two.1, ((p1_11).alloc _).two.2, ((w0_11).alloc _).two.1, ((w0_11).alloc _).two.2, ((x0_11).alloc _).two.1, ((x0_11).alloc _).two.2, ((x1_11).alloc _).two.1, ((x1_11).alloc _).two.2, ((g0_11).alloc _).two.1, ((g0_11).alloc _).two.2⟩) (first | (go_at_call 18; refine (toPoly_any _ _ _ xs0 _ ((r0_9).drew) hn0).mono ?_; rintro e w10 ⟨E10, f10, rfl, t0_7_10, hb10⟩; have r0_10 := ((r0_9).drew).below hb10; have r1_10 := ((r1_9).drew).below hb10; have p0_10 := ((p0_9).drew).below hb10; obtain ⟨p0a_10, p0b_10⟩ := p0_10.two; have p1_10 := ((p1_9).drew).below hb10; obtain ⟨p1a_10, p1b_10⟩ := p1_10.two; have g_0_10 := ((g_0_9).drew).below hb10; have w0_10 := ((w0_9).drew).below hb10; obtain ⟨w0a_10, w0b_10⟩ := w0_10.two; have t0_1_10 := ((t0_1_9).drew).below hb10; have x0_10 := ((x0_9).drew).below hb10; obtain ⟨x0a_10, x0b_10⟩ := x0_10.two; have t1_3_10 := ((t1_3_9).drew).below hb10; have x1_10 := ((x1_9).drew).below hb10; obtain ⟨x1a_10, x1b_10⟩ := x1_10.two; have g_5_10 := ((g_5_9).drew).below hb10; have g0_10 := ((g0_9).drew).below hb10; obtain ⟨g0a_10, g0b_10⟩ := g0_10.two; have z_10 : w9.drew.heap.size ≤ w10.heap.size := hb10.size; simp only [World.size_drew] at z_10; have B_10 := ((B_9).drew).trans (hb10.mono (by first | omega | (simp; omega) | simp))) | (go_at_call 20; refine (eqPoly_any _ _ _ _ _ _ xs0 xs0 _ ((t0_1_10).rd) ((t0_7_10).rd) hn0 hn0).mono ?_; rintro e w11 ⟨rfl, hb11⟩; have r0_11 := (r0_10).below hb11; have r1_11 := (r1_10).below hb11; have p0_11 := (p0_10).below hb11; obtain ⟨p0a_11, p0b_11⟩ := p0_11.two; have p1_11 := (p1_10).below hb11; obtain ⟨p1a_11, p1b_11⟩ := p1_11.two; have g_0_11 := (g_0_10).below hb11; have w0_11 := (w0_10).below hb11; obtain ⟨w0a_11, w0b_11⟩ := w0_11.two; have t0_1_11 := (t0_1_10).below hb11; have x0_11 := (x0_10).below hb11; obtain ⟨x0a_11, x0b_11⟩ := x0_11.two; have t1_3_11 := (t1_3_10).below hb11; have x1_11 := (x1_10).below hb11; obtain ⟨x1a_11, x1b_11⟩ := x1_11.two; have g_5_11 := (g_5_10).below hb11; have g0_11 := (g0_10).below hb11; obtain ⟨g0a_11, g0b_11⟩ := g0_11.two; have t0_7_11 := (t0_7_10).below hb11; have z_11 : w10.heap.size ≤ w11.heap.size := hb11.size; have B_11 := (B_10).trans (hb11.mono (by first | omega | (simp; omega) | simp))))
    go_wp2_with fail
    go_region_held3 (fun w' => w'.cell? ⟨w.heap.size, 0, none⟩ = some (.int .i64 l0) ∧ w'.cell? ⟨w.heap.size, 1, none⟩ = some (.slice A0 xs0.length c0) ∧ w'.cell? ⟨w.heap.size + 1, 0, none⟩ = some (.int .i64 l1) ∧ w'.cell? ⟨w.heap.size + 1, 1, none⟩ = some (.slice A1 xs1.length c1) ∧ w'.cell? ⟨G5, 0, none⟩ = some (.int .i64 L0) ∧ w'.cell? ⟨G5, 1, none⟩ = some (.slice E5 X0.length f5) ∧ w'.cell? ⟨w6.heap.size, 0, none⟩ = some (.int .i64 l0) ∧ w'.cell? ⟨w6.heap.size, 1, none⟩ = some (.slice E6 xs0.length f6) ∧ w'.cell? ⟨w7.heap.size, 0, none⟩ = some (.int .i64 l1) ∧ w'.cell? ⟨w7.heap.size, 1, none⟩ = some (.slice E7 xs1.length f7) ∧ w'.cell? ⟨w8.heap.size, 0, none⟩ = some (.int .i64 L0) ∧ w'.cell? ⟨w8.heap.size, 1, none⟩ = some (.slice E8 X0.length f8)) (first | exact ⟨p0a_11, p0b_11, p1a_11, p1b_11, w0a_11, w0b_11, x0a_11, x0b_11, x1a_11, x1b_11, g0a_11, g0b_11⟩ | exact ⟨p0a_12, p0b_12, p1a_12, p1b_12, w0a_12, w0b_12, x0a_12, x0b_12, x1a_12, x1b_12, g0a_12, g0b_12⟩ | exact ⟨p0a_13, p0b_13, p1a_13, p1b_13, w0a_13, w0b_13, x0a_13, x0b_13, x1a_13, x1b_13, g0a_13, g0b_13⟩ | exact ⟨((p0_13).alloc _).two.1, ((p0_13).alloc _).two.2, ((p1_13).alloc _).two.1, ((p1_13).alloc _).two.2, ((w0_13).alloc _).two.1, ((w0_13).alloc _).two.2, ((x0_13).alloc _).two.1, ((x0_13).alloc _).two.2, ((x1_13).alloc _).two.1, ((x1_13).alloc _).two.2, ((g0_13).alloc _).two.1, ((g0_13).alloc _).two.2⟩) (first | (go_at_call 18; refine (toPoly_any _ _ _ xs1 _ ((r1_11).drew) hn1).mono ?_; rintro e w12 ⟨E12, f12, rfl, t1_8_12, hb12⟩; have r0_12 := ((r0_11).drew).below hb12; have r1_12 := ((r1_11).drew).below hb12; have p0_12 := ((p0_11).drew).below hb12; obtain ⟨p0a_12, p0b_12⟩ := p0_12.two; have p1_12 := ((p1_11).drew).below hb12; obtain ⟨p1a_12, p1b_12⟩ := p1_12.two; have g_0_12 := ((g_0_11).drew).below hb12; have w0_12 := ((w0_11).drew).below hb12; obtain ⟨w0a_12, w0b_12⟩ := w0_12.two; have t0_1_12 := ((t0_1_11).drew).below hb12; have x0_12 := ((x0_11).drew).below hb12; obtain ⟨x0a_12, x0b_12⟩ := x0_12.two; have t1_3_12 := ((t1_3_11).drew).below hb12; have x1_12 := ((x1_11).drew).below hb12; obtain ⟨x1a_12, x1b_12⟩ := x1_12.two; have g_5_12 := ((g_5_11).drew).below hb12; have g0_12 := ((g0_11).drew).below hb12; obtain ⟨g0a_12, g0b_12⟩ := g0_12.two; have t0_7_12 := ((t0_7_11).drew).below hb12; have z_12 : w11.drew.heap.size ≤ w12.heap.size := hb12.size; simp only [World.size_drew] at z_12; have B_12 := ((B_11).drew).trans (hb12.mono (by first | omega | (simp; omega) | simp))) | (go_at_call 20; refine (eqPoly_any _ _ _ _ _ _ xs1 xs1 _ ((t1_3_12).rd) ((t1_8_12).rd) hn1 hn1).mono ?_; rintro e w13 ⟨rfl, hb13⟩; have r0_13 := (r0_12).below hb13; have r1_13 := (r1_12).below hb13; have p0_13 := (p0_12).below hb13; obtain ⟨p0a_13, p0b_13⟩ := p0_13.two; have p1_13 := (p1_12).below hb13; obtain ⟨p1a_13, p1b_13⟩ := p1_13.two; have g_0_13 := (g_0_12).below hb13; have w0_13 := (w0_12).below hb13; obtain ⟨w0a_13, w0b_13⟩ := w0_13.two; have t0_1_13 := (t0_1_12).below hb13; have x0_13 := (x0_12).below hb13; obtain ⟨x0a_13, x0b_13⟩ := x0_13.two; have t1_3_13 := (t1_3_12).below hb13; have x1_13 := (x1_12).below hb13; obtain ⟨x1a_13, x1b_13⟩ := x1_13.two; have g_5_13 := (g_5_12).below hb13; have g0_13 := (g0_12).below hb13; obtain ⟨g0a_13, g0b_13⟩ := g0_13.two; have t0_7_13 := (t0_7_12).below hb13; have t1_8_13 := (t1_8_12).below hb13; have z_13 : w12.heap.size ≤ w13.heap.size := hb13.size; have B_13 := (B_12).trans (hb13.mono (by first | omega | (simp; omega) | simp))))
    go_wp2_with fail
    refine (markPoly_any _ _ _ _ xs0 _ _ (t0_1_13) hn0 (by omega) (by omega)).mono ?_
    rintro e w14 ⟨rfl, t0_1_14, hg14⟩
    have r0_14 := (r0_13).grownOld hr0 (t0_1_13) (by first | omega | (simp; omega) | simp) hg14
    have r1_14 := (r1_13).grownOld hr1 (t0_1_13) (by first | omega | (simp; omega) | simp) hg14
    have p0_14 := (p0_13).grownOwn (t0_1_13) (by decide) hg14
    obtain ⟨p0a_14, p0b_14⟩ := p0_14.two
    have p1_14 := (p1_13).grownOwn (t0_1_13) (by decide) hg14
    obtain ⟨p1a_14, p1b_14⟩ := p1_14.two
    have g_0_14 := ((g_0_13).rd).grownOld g_0_5.rd (t0_1_13) (by first | omega | (simp; omega) | simp) hg14
    have w0_14 := (w0_13).grownOwn (t0_1_13) (by decide) hg14
    obtain ⟨w0a_14, w0b_14⟩ := w0_14.two
    have x0_14 := (x0_13).grownOwn (t0_1_13) (by decide) hg14
    obtain ⟨x0a_14, x0b_14⟩ := x0_14.two
    have t1_3_14 := (t1_3_13).grownNew t0_1_6 (by first | omega | (simp; omega) | simp) hg14
    have x1_14 := (x1_13).grownOwn (t0_1_13) (by decide) hg14
    obtain ⟨x1a_14, x1b_14⟩ := x1_14.two
    have g_5_14 := (g_5_13).grownNew t0_1_7 (by first | omega | (simp; omega) | simp) hg14
    have g0_14 := (g0_13).grownOwn (t0_1_13) (by decide) hg14
    obtain ⟨g0a_14, g0b_14⟩ := g0_14.two
    have t0_7_14 := (t0_7_13).grownNew t0_1_9 (by first | omega | (simp; omega) | simp) hg14
    have t1_8_14 := (t1_8_13).grownNew t0_1_11 (by first | omega | (simp; omega) | simp) hg14
    have z_14 : w13.heap.size ≤ w14.heap.size := hg14.size
    have B_14 := below_mark (B_13) t0_1_13 hg14 (by first | omega | (simp; omega) | simp) (by first | omega | (simp; omega) | simp)
    go_wp2_with fail
    refine (markPoly_any _ _ _ _ xs1 _ _ (t1_3_14) hn1 (by omega) (by omega)).mono ?_
    rintro e w15 ⟨rfl, t1_3_15, hg15⟩
    have r0_15 := (r0_14).grownOld hr0 (t1_3_14) (by first | omega | (simp; omega) | simp) hg15
    have r1_15 := (r1_14).grownOld hr1 (t1_3_14) (by first | omega | (simp; omega) | simp) hg15
    have p0_15 := (p0_14).grownOwn (t1_3_14) (by decide) hg15
    obtain ⟨p0a_15, p0b_15⟩ := p0_15.two
    have p1_15 := (p1_14).grownOwn (t1_3_14) (by decide) hg15
    obtain ⟨p1a_15, p1b_15⟩ := p1_15.two
    have g_0_15 := (g_0_14).grownOld g_0_5.rd (t1_3_14) (by first | omega | (simp; omega) | simp) hg15
    have w0_15 := (w0_14).grownOwn (t1_3_14) (by decide) hg15
    obtain ⟨w0a_15, w0b_15⟩ := w0_15.two
    have x0_15 := (x0_14).grownOwn (t1_3_14) (by decide) hg15
    obtain ⟨x0a_15, x0b_15⟩ := x0_15.two
    have x1_15 := (x1_14).grownOwn (t1_3_14) (by decide) hg15
    obtain ⟨x1a_15, x1b_15⟩ := x1_15.two
    have g_5_15 := (g_5_14).grownNew t1_3_7 (by first | omega | (simp; omega) | simp) hg15
    have g0_15 := (g0_14).grownOwn (t1_3_14) (by decide) hg15
    obtain ⟨g0a_15, g0b_15⟩ := g0_15.two
    have t0_7_15 := (t0_7_14).grownNew t1_3_9 (by first | omega | (simp; omega) | simp) hg15
    have t1_8_15 := (t1_8_14).grownNew t1_3_11 (by first | omega | (simp; omega) | simp) hg15
    have z_15 : w14.heap.size ≤ w15.heap.size := hg15.size
    have B_15 := below_mark (B_14) t1_3_14 hg15 (by first | omega | (simp; omega) | simp) (by first | omega | (simp; omega) | simp)
    have hq10 : ¬ (1 + (xs0.length : Int) + (xs1.length : Int) < 0) := by omega
    go_wp2_with fail
    refine (eqPoly_any _ _ _ _ _ _ X0 X0 _ ((g_5_15).rd) (g_0_15) hX0 hX0).mono ?_
    rintro e w16 ⟨rfl, hb16⟩
    have r0_16 := (r0_15).below hb16
    have r1_16 := (r1_15).below hb16
    have p0_16 := (p0_15).below hb16
    obtain ⟨p0a_16, p0b_16⟩ := p0_16.two
    have p1_16 := (p1_15).below hb16
    obtain ⟨p1a_16, p1b_16⟩ := p1_16.two
    have g_0_16 := (g_0_15).below hb16
    have w0_16 := (w0_15).below hb16
    obtain ⟨w0a_16, w0b_16⟩ := w0_16.two
    have x0_16 := (x0_15).below hb16
    obtain ⟨x0a_16, x0b_16⟩ := x0_16.two
    have t1_3_16 := (t1_3_15).below hb16
    have x1_16 := (x1_15).below hb16
    obtain ⟨x1a_16, x1b_16⟩ := x1_16.two
    have g_5_16 := (g_5_15).below hb16
    have g0_16 := (g0_15).below hb16
    obtain ⟨g0a_16, g0b_16⟩ := g0_16.two
    have t0_7_16 := (t0_7_15).below hb16
    have t1_8_16 := (t1_8_15).below hb16
    have z_16 : w15.heap.size ≤ w16.heap.size := hb16.size
    have B_16 := (B_15).trans (hb16.mono (by first | omega | (simp; omega) | simp))
    go_wp2_with fail
    refine (markPoly_any _ _ _ _ X0 _ _ (g_5_16) hX0 (by omega) (by omega)).mono ?_
    rintro e w17 ⟨rfl, g_5_17, hg17⟩
    have r0_17 := (r0_16).grownOld hr0 (g_5_16) (by first | omega | (simp; omega) | simp) hg17
    have r1_17 := (r1_16).grownOld hr1 (g_5_16) (by first | omega | (simp; omega) | simp) hg17
    have p0_17 := (p0_16).grownOwn (g_5_16) (by decide) hg17
    obtain ⟨p0a_17, p0b_17⟩ := p0_17.two
    have p1_17 := (p1_16).grownOwn (g_5_16) (by decide) hg17
    obtain ⟨p1a_17, p1b_17⟩ := p1_17.two
    have g_0_17 := (g_0_16).grownOld g_0_5.rd (g_5_16) (by first | omega | (simp; omega) | simp) hg17
    have w0_17 := (w0_16).grownOwn (g_5_16) (by decide) hg17
    obtain ⟨w0a_17, w0b_17⟩ := w0_17.two
    have x0_17 := (x0_16).grownOwn (g_5_16) (by decide) hg17
    obtain ⟨x0a_17, x0b_17⟩ := x0_17.two
    have x1_17 := (x1_16).grownOwn (g_5_16) (by decide) hg17
    obtain ⟨x1a_17, x1b_17⟩ := x1_17.two
    have g0_17 := (g0_16).grownOwn (g_5_16) (by decide) hg17
    obtain ⟨g0a_17, g0b_17⟩ := g0_17.two
    have t0_7_17 := (t0_7_16).grownNew g_5_9 (by first | omega | (simp; omega) | simp) hg17
    have t1_8_17 := (t1_8_16).grownNew g_5_11 (by first | omega | (simp; omega) | simp) hg17
    have z_17 : w16.heap.size ≤ w17.heap.size := hg17.size
    have B_17 := below_mark (B_16) g_5_16 hg17 (by first | omega | (simp; omega) | simp) (by first | omega | (simp; omega) | simp)
    go_wp2_with fail
    refine (heldPoly_any _ _ _ X0.length _ _ ((g_5_17).rd) hX0 (by omega) (by omega)).mono ?_
    rintro e w18 ⟨rfl, hb18⟩
    have r0_18 := (r0_17).below hb18
    have r1_18 := (r1_17).below hb18
    have p0_18 := (p0_17).below hb18
    obtain ⟨p0a_18, p0b_18⟩ := p0_18.two
    have p1_18 := (p1_17).below hb18
    obtain ⟨p1a_18, p1b_18⟩ := p1_18.two
    have g_0_18 := (g_0_17).below hb18
    have w0_18 := (w0_17).below hb18
    obtain ⟨w0a_18, w0b_18⟩ := w0_18.two
    have x0_18 := (x0_17).below hb18
    obtain ⟨x0a_18, x0b_18⟩ := x0_18.two
    have x1_18 := (x1_17).below hb18
    obtain ⟨x1a_18, x1b_18⟩ := x1_18.two
    have g_5_18 := (g_5_17).below hb18
    have g0_18 := (g0_17).below hb18
    obtain ⟨g0a_18, g0b_18⟩ := g0_18.two
    have t0_7_18 := (t0_7_17).below hb18
    have t1_8_18 := (t1_8_17).below hb18
    have z_18 : w17.heap.size ≤ w18.heap.size := hb18.size
    have B_18 := (B_17).trans (hb18.mono (by first | omega | (simp; omega) | simp))
    have hq11 : ¬ (1 + (X0.length : Int) < 0) := by omega
    have hq12 : (1 + (X0.length : Int) != 1 + (X0.length : Int)) = false := by simp
    go_upto_region 31 with fail
    go_cut [15, 16] (fun s15 s16 wx => ∃ (G : Nat) (E : Option Addr) (f : Nat), s15 = .pointer (some ⟨G, 0, none⟩) ∧ s16 = .int .i64 v1 ∧ Below w18.heap.size w18 wx ∧ w18.heap.size ≤ G ∧ Bx wx G 29 #[.int .i64 L0, .slice E X0.length f] ∧ OwnI wx w18.heap.size E f X0)
    case first =>
      have BS : Below w18.heap.size w18 w18.drew := (Below.refl w18.heap.size w18).drew
      have keepS : Hid (∀ W, Below w18.heap.size w18 W → (fun w' : World => w'.cell? ⟨w.heap.size, 0, none⟩ = some (.int .i64 l0) ∧ w'.cell? ⟨w.heap.size, 1, none⟩ = some (.slice A0 xs0.length c0) ∧ w'.cell? ⟨w.heap.size + 1, 0, none⟩ = some (.int .i64 l1) ∧ w'.cell? ⟨w.heap.size + 1, 1, none⟩ = some (.slice A1 xs1.length c1) ∧ w'.cell? ⟨G5, 0, none⟩ = some (.int .i64 L0) ∧ w'.cell? ⟨G5, 1, none⟩ = some (.slice E5 X0.length f5) ∧ w'.cell? ⟨w6.heap.size, 0, none⟩ = some (.int .i64 l0) ∧ w'.cell? ⟨w6.heap.size, 1, none⟩ = some (.slice E6 xs0.length f6) ∧ w'.cell? ⟨w7.heap.size, 0, none⟩ = some (.int .i64 l1) ∧ w'.cell? ⟨w7.heap.size, 1, none⟩ = some (.slice E7 xs1.length f7) ∧ w'.cell? ⟨w8.heap.size, 0, none⟩ = some (.int .i64 L0) ∧ w'.cell? ⟨w8.heap.size, 1, none⟩ = some (.slice E8 X0.length f8)) W) := hide (fun W hW => ⟨((p0_18).below hW).two.1, ((p0_18).below hW).two.2, ((p1_18).below hW).two.1, ((p1_18).below hW).two.2, ((w0_18).below hW).two.1, ((w0_18).below hW).two.2, ((x0_18).below hW).two.1, ((x0_18).below hW).two.2, ((x1_18).below hW).two.1, ((x1_18).below hW).two.2, ((g0_18).below hW).two.1, ((g0_18).below hW).two.2⟩)
      go_region_held3 (fun w' => w'.cell? ⟨w.heap.size, 0, none⟩ = some (.int .i64 l0) ∧ w'.cell? ⟨w.heap.size, 1, none⟩ = some (.slice A0 xs0.length c0) ∧ w'.cell? ⟨w.heap.size + 1, 0, none⟩ = some (.int .i64 l1) ∧ w'.cell? ⟨w.heap.size + 1, 1, none⟩ = some (.slice A1 xs1.length c1) ∧ w'.cell? ⟨G5, 0, none⟩ = some (.int .i64 L0) ∧ w'.cell? ⟨G5, 1, none⟩ = some (.slice E5 X0.length f5) ∧ w'.cell? ⟨w6.heap.size, 0, none⟩ = some (.int .i64 l0) ∧ w'.cell? ⟨w6.heap.size, 1, none⟩ = some (.slice E6 xs0.length f6) ∧ w'.cell? ⟨w7.heap.size, 0, none⟩ = some (.int .i64 l1) ∧ w'.cell? ⟨w7.heap.size, 1, none⟩ = some (.slice E7 xs1.length f7) ∧ w'.cell? ⟨w8.heap.size, 0, none⟩ = some (.int .i64 L0) ∧ w'.cell? ⟨w8.heap.size, 1, none⟩ = some (.slice E8 X0.length f8)) (exact keepS.out _ (by first | exact B21 | exact B21.alloc (Below.size B21) _ | exact B20 | exact B20.alloc (Below.size B20) _ | exact B19 | exact B19.alloc (Below.size B19) _ | exact BS | exact BS.alloc (Below.size BS) _ | exact ((B21).setCell (Below.size B21) _).setCell (Below.size B21) _ | exact ((B21).setCell (Below.size B20) _).setCell (Below.size B20) _ | exact ((B21).setCell (Below.size B19) _).setCell (Below.size B19) _ | exact ((B21).setCell (Below.size BS) _).setCell (Below.size BS) _ | exact ((B21.alloc (Below.size B21) _).setCell (Below.size B21) _).setCell (Below.size B21) _)) (first | (go_at_call_of 18 (Value.agg #[.int .i64 l0, .slice A0 xs0.length c0]); refine (toPoly_any _ _ _ xs0 _ ((r0_18).below (by first | exact BS | exact BS.alloc (Below.size BS) _)) hn0).mono ?_; rintro e w19 ⟨E19, f19, rfl, t0_19, hb19⟩; have B19 : Below w18.heap.size w18 w19 := Below.trans (by first | exact BS | exact BS.alloc (Below.size BS) _) (hb19.mono (by first | exact (Below.size BS) | exact (BS.alloc (Below.size BS) _).size)); (try (have box19 := (Bx.new _ _ _).below hb19; (try simp only [World.size_drew] at box19); obtain ⟨ba19, bb19⟩ := box19.two; have bf19 := box19.frozen 0; have bg19 := box19.frozen 1)); (try (have box19 := ((Bx.new _ _ _).drew).below hb19; (try simp only [World.size_drew] at box19); obtain ⟨ba19, bb19⟩ := box19.two; have bf19 := box19.frozen 0; have bg19 := box19.frozen 1))) | (go_at_call_of 18 (Value.agg #[.int .i64 l1, .slice A1 xs1.length c1]); refine (toPoly_any _ _ _ xs1 _ ((r1_18).below (by first | exact B19 | exact B19.alloc (Below.size B19) _ | exact BS | exact BS.alloc (Below.size BS) _)) hn1).mono ?_; rintro e w20 ⟨E20, f20, rfl, t1_20, hb20⟩; have B20 : Below w18.heap.size w18 w20 := Below.trans (by first | exact B19 | exact B19.alloc (Below.size B19) _ | exact BS | exact BS.alloc (Below.size BS) _) (hb20.mono (by first | exact (Below.size B19) | exact (B19.alloc (Below.size B19) _).size | exact (Below.size BS) | exact (BS.alloc (Below.size BS) _).size)); have t0_20 := (by first | exact (t0_19).below hb20 | exact ((t0_19).alloc _).below hb20); (try (have box20 := (Bx.new _ _ _).below hb20; (try simp only [World.size_drew] at box20); obtain ⟨ba20, bb20⟩ := box20.two; have bf20 := box20.frozen 0; have bg20 := box20.frozen 1)); (try (have box20 := ((Bx.new _ _ _).drew).below hb20; (try simp only [World.size_drew] at box20); obtain ⟨ba20, bb20⟩ := box20.two; have bf20 := box20.frozen 0; have bg20 := box20.frozen 1)); (try (have box20 := box19.below hb20; obtain ⟨ba20, bb20⟩ := box20.two; have bf20 := box20.frozen 0; have bg20 := box20.frozen 1))) | (go_at_call 34; refine (himpl.out _ _ _ _ _ (by first | exact (t0_20).rd | exact ((t0_20).alloc _).rd) (t0_20).cap_ (by first | exact (t1_20).rd | exact ((t1_20).alloc _).rd) (t1_20).cap_).mono ?_; rintro e w21 ⟨E21, f21, rfl, g_21, hb21⟩; have B21 : Below w18.heap.size w18 w21 := Below.trans (by first | exact B20 | exact B20.alloc (Below.size B20) _ | exact B19 | exact B19.alloc (Below.size B19) _ | exact BS | exact BS.alloc (Below.size BS) _) (hb21.mono (by first | exact (Below.size B20) | exact (B20.alloc (Below.size B20) _).size | exact (Below.size B19) | exact (B19.alloc (Below.size B19) _).size | exact (Below.size BS) | exact (BS.alloc (Below.size BS) _).size)); have t0_21 := (by first | exact (t0_20).below hb21 | exact ((t0_20).alloc _).below hb21); have t1_21 := (by first | exact (t1_20).below hb21 | exact ((t1_20).alloc _).below hb21); (try (have box21 := (Bx.new _ _ _).below hb21; (try simp only [World.size_drew] at box21); obtain ⟨ba21, bb21⟩ := box21.two; have bf21 := box21.frozen 0; have bg21 := box21.frozen 1)); (try (have box21 := ((Bx.new _ _ _).drew).below hb21; (try simp only [World.size_drew] at box21); obtain ⟨ba21, bb21⟩ := box21.two; have bf21 := box21.frozen 0; have bg21 := box21.frozen 1)); (try (have box21 := box20.below hb21; obtain ⟨ba21, bb21⟩ := box21.two; have bf21 := box21.frozen 0; have bg21 := box21.frozen 1)); have gg_21 := (g_21).mono (show w18.heap.size ≤ _ by first | exact (Below.size B20) | exact (B20.alloc (Below.size B20) _).size | exact (Below.size B19) | exact (B19.alloc (Below.size B19) _).size | exact (Below.size BS) | exact (BS.alloc (Below.size BS) _).size)))
      all_goals go_wp2_with fail
      all_goals go_meet
      all_goals first
        | exact ⟨_, _, _, rfl, rfl, B21.alloc (Below.size B21) _, Below.size B21, Bx.new _ _ _, gg_21.alloc _⟩
        | exact ⟨_, _, _, rfl, rfl, (B21.setCell (by first | exact Nat.le_refl _ | exact Below.size B21 | exact Below.size B20 | exact Below.size B19 | exact Below.size BS) _).setCell (by first | exact Nat.le_refl _ | exact Below.size B21 | exact Below.size B20 | exact Below.size B19 | exact Below.size BS) _, (by first | exact Nat.le_refl _ | exact Below.size B21 | exact Below.size B20 | exact Below.size B19 | exact Below.size BS), (box21.set_ 0 _).set_ 1 _, ((g_21.setLow (by first | exact box20.lt | simp) _).setLow (by first | exact box20.lt | simp) _).mono (show w18.heap.size ≤ _ by first | exact (Below.size B20) | exact (B20.alloc (Below.size B20) _).size | exact (Below.size B19) | exact (B19.alloc (Below.size B19) _).size | exact (Below.size BS) | exact (BS.alloc (Below.size BS) _).size)⟩
    case rest =>
      obtain ⟨G21, E21, f21, rfl, rfl, hb21, hG21, bx21, g_21⟩ := hcut
      obtain ⟨w21, rfl⟩ : ∃ w21 : World, w21 = wc := ⟨_, rfl⟩
      have r0_21 := (r0_18).below hb21
      have r1_21 := (r1_18).below hb21
      have p0_21 := (p0_18).below hb21
      obtain ⟨p0a_21, p0b_21⟩ := p0_21.two
      have p1_21 := (p1_18).below hb21
      obtain ⟨p1a_21, p1b_21⟩ := p1_21.two
      have g_0_21 := (g_0_18).below hb21
      have w0_21 := (w0_18).below hb21
      obtain ⟨w0a_21, w0b_21⟩ := w0_21.two
      have x0_21 := (x0_18).below hb21
      obtain ⟨x0a_21, x0b_21⟩ := x0_21.two
      have x1_21 := (x1_18).below hb21
      obtain ⟨x1a_21, x1b_21⟩ := x1_21.two
      have g_5_21 := (g_5_18).below hb21
      have g0_21 := (g0_18).below hb21
      obtain ⟨g0a_21, g0b_21⟩ := g0_21.two
      have t0_7_21 := (t0_7_18).below hb21
      have t1_8_21 := (t1_8_18).below hb21
      have z_21 : w18.heap.size ≤ w21.heap.size := hb21.size
      have B_21 := (B_18).trans (hb21.mono (by first | omega | (simp; omega) | simp))
      have g_12_21 := g_21
      have h0_21 := bx21
      obtain ⟨h0a_21, h0b_21⟩ := h0_21.two
      go_wp2_with fail
      refine (eqPoly_any _ _ _ _ _ _ X0 X0 _ ((g_12_21).rd) (g_0_21) hX0 hX0).mono ?_
      rintro e w22 ⟨rfl, hb22⟩
      have r0_22 := (r0_21).below hb22
      have r1_22 := (r1_21).below hb22
      have p0_22 := (p0_21).below hb22
      obtain ⟨p0a_22, p0b_22⟩ := p0_22.two
      have p1_22 := (p1_21).below hb22
      obtain ⟨p1a_22, p1b_22⟩ := p1_22.two
      have g_0_22 := (g_0_21).below hb22
      have w0_22 := (w0_21).below hb22
      obtain ⟨w0a_22, w0b_22⟩ := w0_22.two
      have x0_22 := (x0_21).below hb22
      obtain ⟨x0a_22, x0b_22⟩ := x0_22.two
      have x1_22 := (x1_21).below hb22
      obtain ⟨x1a_22, x1b_22⟩ := x1_22.two
      have g_5_22 := (g_5_21).below hb22
      have g0_22 := (g0_21).below hb22
      obtain ⟨g0a_22, g0b_22⟩ := g0_22.two
      have t0_7_22 := (t0_7_21).below hb22
      have t1_8_22 := (t1_8_21).below hb22
      have g_12_22 := (g_12_21).below hb22
      have h0_22 := (h0_21).below hb22
      obtain ⟨h0a_22, h0b_22⟩ := h0_22.two
      have z_22 : w21.heap.size ≤ w22.heap.size := hb22.size
      have B_22 := (B_21).trans (hb22.mono (by first | omega | (simp; omega) | simp))
      go_wp2_with fail
      refine (heldPoly_any _ _ _ X0.length _ _ ((g_5_22).rd) hX0 (by omega) (by omega)).mono ?_
      rintro e w23 ⟨rfl, hb23⟩
      have r0_23 := (r0_22).below hb23
      have r1_23 := (r1_22).below hb23
      have p0_23 := (p0_22).below hb23
      obtain ⟨p0a_23, p0b_23⟩ := p0_23.two
      have p1_23 := (p1_22).below hb23
      obtain ⟨p1a_23, p1b_23⟩ := p1_23.two
      have g_0_23 := (g_0_22).below hb23
      have w0_23 := (w0_22).below hb23
      obtain ⟨w0a_23, w0b_23⟩ := w0_23.two
      have x0_23 := (x0_22).below hb23
      obtain ⟨x0a_23, x0b_23⟩ := x0_23.two
      have x1_23 := (x1_22).below hb23
      obtain ⟨x1a_23, x1b_23⟩ := x1_23.two
      have g_5_23 := (g_5_22).below hb23
      have g0_23 := (g0_22).below hb23
      obtain ⟨g0a_23, g0b_23⟩ := g0_23.two
      have t0_7_23 := (t0_7_22).below hb23
      have t1_8_23 := (t1_8_22).below hb23
      have g_12_23 := (g_12_22).below hb23
      have h0_23 := (h0_22).below hb23
      obtain ⟨h0a_23, h0b_23⟩ := h0_23.two
      have z_23 : w22.heap.size ≤ w23.heap.size := hb23.size
      have B_23 := (B_22).trans (hb23.mono (by first | omega | (simp; omega) | simp))
      have hq14 : ¬ (1 + (X0.length : Int) < 0) := by omega
      have hq15 : (1 + (X0.length : Int) != 1 + (X0.length : Int)) = false := by simp
      go_wp2_with fail
      go_ret
      exact ⟨rfl, B_23⟩

theorem walk_MulPolys_of (l0 : Int) (A0 : Option Addr) (c0 : Nat) (xs0 : List Int) (l1 : Int) (A1 : Option Addr) (c1 : Nat) (xs1 : List Int) (w : World) (hx0 : ArgI w A0 c0 xs0) (hx1 : ArgI w A1 c1 xs1)
    (h : xs0.length + xs1.length ≤ 1048576 → ∃ (L0 : Int) (X0 : List Int) (v1 : Int), X0.length ≤ 1048576 ∧ (∀ (W : World) (B0 : Option Addr) (d0 : Nat) (B1 : Option Addr) (d1 : Nat), RI W B0 xs0 → (xs0.length ≤ d0 ∧ d0 ≤ 9223372036854775807) → RI W B1 xs1 → (xs1.length ≤ d1 ∧ d1 ≤ 9223372036854775807) → Calls Try.prog 33 #[.agg #[.int .i64 l0, .slice B0 xs0.length d0], .agg #[.int .i64 l1, .slice B1 xs1.length d1]] W (RetPC W L0 X0 v1)) ∧ (∀ (W : World) (B0 : Option Addr) (d0 : Nat) (B1 : Option Addr) (d1 : Nat), RI W B0 xs0 → (xs0.length ≤ d0 ∧ d0 ≤ 9223372036854775807) → RI W B1 xs1 → (xs1.length ≤ d1 ∧ d1 ≤ 9223372036854775807) → Calls Try.prog 34 #[.agg #[.int .i64 l0, .slice B0 xs0.length d0], .agg #[.int .i64 l1, .slice B1 xs1.length d1]] W (RetPC W L0 X0 v1))) :
    Calls Try.prog 10 #[.agg #[.int .i64 l0, .slice A0 xs0.length c0], .agg #[.int .i64 l1, .slice A1 xs1.length c1]] w fun e w' => e = .returned (.bool true) ∧ Below w.heap.size w w' := by
  by_cases hs : xs0.length + xs1.length ≤ 1048576
  · obtain ⟨L0, X0, v1, hX0, h1, h2⟩ := h hs
    exact walk_MulPolys_core l0 A0 c0 xs0 l1 A1 c1 xs1 w hx0 hx1 hs L0 X0 v1 hX0 h1 h2
  · by_cases hs0 : xs0.length ≤ 1048576
    · exact walk_MulPolys_big1 l0 A0 c0 xs0 l1 A1 c1 xs1 w hx0 hx1 hs0 (by omega)
    · exact walk_MulPolys_big0 l0 A0 c0 xs0 l1 A1 c1 xs1 w hx0 hx1 (by omega)

end Go.Proofs.Ythbhppbcbpllcaa
