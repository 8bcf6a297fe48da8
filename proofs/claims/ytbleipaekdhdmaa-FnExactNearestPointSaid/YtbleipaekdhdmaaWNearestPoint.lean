/-
  The core of the walk of the law FnExactNearestPoint: the law answers true wherever the two functions hand back the same. Conditions: the two functions' contracts, given as hypotheses.
-/
import Derived.Test.YtbleipaekdhdmaaPanel
import Derived.Test.YtbleipaekdhdmaaPts
import Derived.Test.YtbleipaekdhdmaaOpen
import Derived.Deep.DeepCutAuto
import Derived.Deep.RegionHeld3
namespace Go.Proofs.Ytbleipaekdhdmaa
open Go.RowKit
set_option linter.unusedVariables false

set_option maxHeartbeats 1000000 in
theorem walk_NearestPoint_big0 (wd0 ht0 : Int) (A0 : Option Addr) (c0 : Nat) (xs0 : List Int) (px1 py1 : Int) (a2 : Int) (w : World) (hx0 : ArgI w A0 c0 xs0)  (hno : 1048576 < xs0.length) :
    Calls Try.prog 9 #[.agg #[.int .i64 wd0, .int .i64 ht0, .slice A0 xs0.length c0], .agg #[.int .i64 px1, .int .i64 py1], .int .i64 a2] w fun e w' => e = .returned (.bool true) ∧ Below w.heap.size w w' := by
  obtain ⟨hl0, hm0, hr0, hi0⟩ := hx0
  go_enter Try.func9, Try.ntmps9
  go_wp2_with fail
  have k0 : (1048576 : Int) < ((xs0.length : Nat) : Int) := by omega
  refine (szPanel_no _ _ _ _ _ _ _ (by omega) k0 (by omega)).mono ?_
  rintro e w1 ⟨rfl, hb1⟩
  have r0_1 := (((hr0).alloc (.cells #[.int .i64 wd0, .int .i64 ht0, .slice A0 xs0.length c0] 44)).alloc (.cells #[.int .i64 px1, .int .i64 py1] 45)).below hb1
  have p0_1 := ((Bx.new_ w (w.heap.size) 44 #[.int .i64 wd0, .int .i64 ht0, .slice A0 xs0.length c0] (by simp)).alloc (.cells #[.int .i64 px1, .int .i64 py1] 45)).below hb1
  obtain ⟨p0a_1, p0b_1, p0c_1⟩ := p0_1.three
  have p1_1 := (Bx.new_ (w.alloc (.cells #[.int .i64 wd0, .int .i64 ht0, .slice A0 xs0.length c0] 44)) (w.heap.size + 1) 45 #[.int .i64 px1, .int .i64 py1] (by simp)).below hb1
  obtain ⟨p1a_1, p1b_1⟩ := p1_1.two
  have z_1 : ((w.alloc (.cells #[.int .i64 wd0, .int .i64 ht0, .slice A0 xs0.length c0] 44)).alloc (.cells #[.int .i64 px1, .int .i64 py1] 45)).heap.size ≤ w1.heap.size := hb1.size
  simp only [World.size_alloc] at z_1
  have B_1 := (((Below.refl w.heap.size w).alloc (by first | omega | (simp; omega) | simp) (.cells #[.int .i64 wd0, .int .i64 ht0, .slice A0 xs0.length c0] 44)).alloc (by first | omega | (simp; omega) | simp) (.cells #[.int .i64 px1, .int .i64 py1] 45)).trans (hb1.mono (by first | omega | (simp; omega) | simp))
  go_wp2_with fail
  go_ret
  exact ⟨rfl, B_1⟩

set_option maxRecDepth 20000 in
set_option maxHeartbeats 4000000 in
theorem walk_NearestPoint_core (wd0 ht0 : Int) (A0 : Option Addr) (c0 : Nat) (xs0 : List Int) (px1 py1 : Int) (a2 : Int) (w : World) (hx0 : ArgI w A0 c0 xs0) (hsm : xs0.length ≤ 1048576) (vx0 vy0 : Int) (v1 : Int) 
    (hspec0 : ∀ (W : World) (B0 : Option Addr) (d0 : Nat), RI W B0 xs0 → (xs0.length ≤ d0 ∧ d0 ≤ 9223372036854775807) → Calls Try.prog 29 #[.agg #[.int .i64 wd0, .int .i64 ht0, .slice B0 xs0.length d0], .agg #[.int .i64 px1, .int .i64 py1], .int .i64 a2] W (RetV W (.tuple #[.agg #[.int .i64 vx0, .int .i64 vy0], .int .i64 v1])))
    (himpl0 : ∀ (W : World) (B0 : Option Addr) (d0 : Nat), RI W B0 xs0 → (xs0.length ≤ d0 ∧ d0 ≤ 9223372036854775807) → Calls Try.prog 32 #[.agg #[.int .i64 wd0, .int .i64 ht0, .slice B0 xs0.length d0], .agg #[.int .i64 px1, .int .i64 py1], .int .i64 a2] W (RetV W (.tuple #[.agg #[.int .i64 vx0, .int .i64 vy0], .int .i64 v1]))) :
    Calls Try.prog 9 #[.agg #[.int .i64 wd0, .int .i64 ht0, .slice A0 xs0.length c0], .agg #[.int .i64 px1, .int .i64 py1], .int .i64 a2] w fun e w' => e = .returned (.bool true) ∧ Below w.heap.size w w' := by
  obtain ⟨hl0, hm0, hr0, hi0⟩ := hx0
  have hspec := hide hspec0; have himpl := hide himpl0; clear hspec0 himpl0
  have hn0 : xs0.length ≤ 1048576 := by omega
  have hv1 : (v1 != v1) = false := by simp
  go_enter Try.func9, Try.ntmps9
  go_wp2_with fail
  have k_0 : ((xs0.length : Nat) : Int) ≤ 1048576 := by omega
  refine (szPanel_ok _ _ _ _ _ _ _ k_0 (by omega)).mono ?_
  rintro e w1 ⟨rfl, hb1⟩
  have r0_1 := (((hr0).alloc (.cells #[.int .i64 wd0, .int .i64 ht0, .slice A0 xs0.length c0] 44)).alloc (.cells #[.int .i64 px1, .int .i64 py1] 45)).below hb1
  have p0_1 := ((Bx.new_ w (w.heap.size) 44 #[.int .i64 wd0, .int .i64 ht0, .slice A0 xs0.length c0] (by simp)).alloc (.cells #[.int .i64 px1, .int .i64 py1] 45)).below hb1
  obtain ⟨p0a_1, p0b_1, p0c_1⟩ := p0_1.three
  have p1_1 := (Bx.new_ (w.alloc (.cells #[.int .i64 wd0, .int .i64 ht0, .slice A0 xs0.length c0] 44)) (w.heap.size + 1) 45 #[.int .i64 px1, .int .i64 py1] (by simp)).below hb1
  obtain ⟨p1a_1, p1b_1⟩ := p1_1.two
  have z_1 : ((w.alloc (.cells #[.int .i64 wd0, .int .i64 ht0, .slice A0 xs0.length c0] 44)).alloc (.cells #[.int .i64 px1, .int .i64 py1] 45)).heap.size ≤ w1.heap.size := hb1.size
  simp only [World.size_alloc] at z_1
  have B_1 := (((Below.refl w.heap.size w).alloc (by first | omega | (simp; omega) | simp) (.cells #[.int .i64 wd0, .int .i64 ht0, .slice A0 xs0.length c0] 44)).alloc (by first | omega | (simp; omega) | simp) (.cells #[.int .i64 px1, .int .i64 py1] 45)).trans (hb1.mono (by first | omega | (simp; omega) | simp))
  have kk_1 : ¬ (1048576 - (xs0.length : Int) < 0) := by omega
  go_upto_region 5 with fail
  go_cut [8, 9] (fun s8 s9 wx => ∃ (G : Nat), s8 = .pointer (some ⟨G, 0, none⟩) ∧ s9 = .int .i64 v1 ∧ Below w1.heap.size w1 wx ∧ w1.heap.size ≤ G ∧ Bx wx G 30 #[.int .i64 vx0, .int .i64 vy0])
  case first =>
    have C0 : Below w1.heap.size w1 w1.drew := (Below.refl w1.heap.size w1).drew
    have keepS : Hid (∀ W, Below w1.heap.size w1 W → (fun w' : World => w'.cell? ⟨w.heap.size, 0, none⟩ = some (.int .i64 wd0) ∧ w'.cell? ⟨w.heap.size, 1, none⟩ = some (.int .i64 ht0) ∧ w'.cell? ⟨w.heap.size, 2, none⟩ = some (.slice A0 xs0.length c0) ∧ w'.cell? ⟨w.heap.size + 1, 0, none⟩ = some (.int .i64 px1) ∧ w'.cell? ⟨w.heap.size + 1, 1, none⟩ = some (.int .i64 py1)) W) := hide (fun W hW => ⟨((p0_1).below hW).three.1, ((p0_1).below hW).three.2.1, ((p0_1).below hW).three.2.2, ((p1_1).below hW).two.1, ((p1_1).below hW).two.2⟩)
    go_region_held3 (fun w' => w'.cell? ⟨w.heap.size, 0, none⟩ = some (.int .i64 wd0) ∧ w'.cell? ⟨w.heap.size, 1, none⟩ = some (.int .i64 ht0) ∧ w'.cell? ⟨w.heap.size, 2, none⟩ = some (.slice A0 xs0.length c0) ∧ w'.cell? ⟨w.heap.size + 1, 0, none⟩ = some (.int .i64 px1) ∧ w'.cell? ⟨w.heap.size + 1, 1, none⟩ = some (.int .i64 py1)) (first | exact keepS.out _ (by first | exact C4 | exact C4.alloc C4.size _ | exact C3 | exact C3.alloc C3.size _ | exact C2 | exact C2.alloc C2.size _ | exact C0 | exact C0.alloc C0.size _ | exact ((C4).setCell (Below.size C4) _).setCell (Below.size C4) _ | exact ((C4).setCell (Below.size C3) _).setCell (Below.size C3) _ | exact ((C4).setCell (Below.size C2) _).setCell (Below.size C2) _ | exact ((C4).setCell (Below.size C0) _).setCell (Below.size C0) _ | exact ((C4.alloc (Below.size C4) _).setCell (Below.size C4) _).setCell (Below.size C4) _) | fail) (first | (go_at_call_of 30 (Value.agg #[.int .i64 wd0, .int .i64 ht0, .slice A0 xs0.length c0]); refine (toPanel_any _ _ _ _ xs0 _ ((r0_1).below (by first | exact C0 | exact C0.alloc C0.size _)) hn0).mono ?_; rintro e w2 ⟨E0, f0, rfl, t0_2, hb2⟩; have C2 : Below w1.heap.size w1 w2 := Below.trans (by first | exact C0 | exact C0.alloc C0.size _) (hb2.mono (by first | exact C0.size | exact (C0.alloc C0.size _).size)); (try (have box2 := (Bx.new _ _ _).below hb2; (try simp only [World.size_drew] at box2); obtain ⟨ba2, bb2⟩ := box2.two; have bf2 := box2.frozen 0; have bg2 := box2.frozen 1)); (try (have box2 := ((Bx.new _ _ _).drew).below hb2; (try simp only [World.size_drew] at box2); obtain ⟨ba2, bb2⟩ := box2.two; have bf2 := box2.frozen 0; have bg2 := box2.frozen 1))) | (go_at_call_of 31 (Value.agg #[.int .i64 px1, .int .i64 py1]); refine (toPoint_any _ _ _).mono ?_; rintro e w3 ⟨rfl, hb3⟩; have t0_3 := (by first | exact (t0_2).below hb3 | exact ((t0_2).alloc _).below hb3); have C3 : Below w1.heap.size w1 w3 := Below.trans (by first | exact C2 | exact C2.alloc C2.size _ | exact C0 | exact C0.alloc C0.size _) (hb3.mono (by first | exact C2.size | exact (C2.alloc C2.size _).size | exact C0.size | exact (C0.alloc C0.size _).size)); (try (have box3 := (Bx.new _ _ _).below hb3; (try simp only [World.size_drew] at box3); obtain ⟨ba3, bb3⟩ := box3.two; have bf3 := box3.frozen 0; have bg3 := box3.frozen 1)); (try (have box3 := ((Bx.new _ _ _).drew).below hb3; (try simp only [World.size_drew] at box3); obtain ⟨ba3, bb3⟩ := box3.two; have bf3 := box3.frozen 0; have bg3 := box3.frozen 1)); (try (have box3 := box2.below hb3; obtain ⟨ba3, bb3⟩ := box3.two; have bf3 := box3.frozen 0; have bg3 := box3.frozen 1))) | (go_at_call 29; refine (hspec.out _ _ _ (by first | exact (t0_3).rd | exact ((t0_3).alloc _).rd) (t0_3).cap_).mono ?_; rintro e w4 ⟨rfl, hb4⟩; have C4 : Below w1.heap.size w1 w4 := Below.trans (by first | exact C3 | exact C3.alloc C3.size _ | exact C2 | exact C2.alloc C2.size _ | exact C0 | exact C0.alloc C0.size _) (hb4.mono (by first | exact C3.size | exact (C3.alloc C3.size _).size | exact C2.size | exact (C2.alloc C2.size _).size | exact C0.size | exact (C0.alloc C0.size _).size)); (try (have box4 := (Bx.new _ _ _).below hb4; (try simp only [World.size_drew] at box4); obtain ⟨ba4, bb4⟩ := box4.two; have bf4 := box4.frozen 0; have bg4 := box4.frozen 1)); (try (have box4 := ((Bx.new _ _ _).drew).below hb4; (try simp only [World.size_drew] at box4); obtain ⟨ba4, bb4⟩ := box4.two; have bf4 := box4.frozen 0; have bg4 := box4.frozen 1)); (try (have box4 := box3.below hb4; obtain ⟨ba4, bb4⟩ := box4.two; have bf4 := box4.frozen 0; have bg4 := box4.frozen 1))) | fail)
    all_goals go_wp2_with fail
    all_goals go_meet
    all_goals first
      | exact ⟨_, rfl, rfl, C4.alloc (Below.size C4) _, Below.size C4, Bx.new _ _ _⟩
      | exact ⟨_, rfl, rfl, (C4.setCell (by first | exact Nat.le_refl _ | exact Below.size C4 | exact Below.size C3 | exact Below.size C2 | exact Below.size C0) _).setCell (by first | exact Nat.le_refl _ | exact Below.size C4 | exact Below.size C3 | exact Below.size C2 | exact Below.size C0) _, (by first | exact Nat.le_refl _ | exact Below.size C4 | exact Below.size C3 | exact Below.size C2 | exact Below.size C0), (box4.set_ 0 _).set_ 1 _⟩
  case rest =>
    obtain ⟨G4, rfl, rfl, hb4, hG4, bx4⟩ := hcut
    obtain ⟨w4, rfl⟩ : ∃ w4 : World, w4 = wc := ⟨_, rfl⟩
    have r0_4 := (r0_1).below hb4
    have p0_4 := (p0_1).below hb4
    obtain ⟨p0a_4, p0b_4, p0c_4⟩ := p0_4.three
    have p1_4 := (p1_1).below hb4
    obtain ⟨p1a_4, p1b_4⟩ := p1_4.two
    have z_4 : w1.heap.size ≤ w4.heap.size := hb4.size
    have B_4 := (B_1).trans (hb4.mono (by first | omega | (simp; omega) | simp))
    have w0_4 := bx4
    obtain ⟨w0a_4, w0b_4⟩ := w0_4.two
    go_wp2_with fail
    refine (toPanel_any _ _ _ _ xs0 _ (r0_4) hn0).mono ?_
    rintro e w5 ⟨E5, f5, rfl, t0_0_5, hb5⟩
    have r0_5 := (r0_4).below hb5
    have p0_5 := (p0_4).below hb5
    obtain ⟨p0a_5, p0b_5, p0c_5⟩ := p0_5.three
    have p1_5 := (p1_4).below hb5
    obtain ⟨p1a_5, p1b_5⟩ := p1_5.two
    have w0_5 := (w0_4).below hb5
    obtain ⟨w0a_5, w0b_5⟩ := w0_5.two
    have z_5 : w4.heap.size ≤ w5.heap.size := hb5.size
    have B_5 := (B_4).trans (hb5.mono (by first | omega | (simp; omega) | simp))
    obtain ⟨p0a_5x2, p0b_5x2, p0c_5x2⟩ := ((p0_5).alloc (.cells #[.int .i64 wd0, .int .i64 ht0, .slice E5 xs0.length f5] 49)).three
    obtain ⟨p1a_5x2, p1b_5x2⟩ := ((p1_5).alloc (.cells #[.int .i64 wd0, .int .i64 ht0, .slice E5 xs0.length f5] 49)).two
    obtain ⟨w0a_5x2, w0b_5x2⟩ := ((w0_5).alloc (.cells #[.int .i64 wd0, .int .i64 ht0, .slice E5 xs0.length f5] 49)).two
    obtain ⟨x0a_5x2, x0b_5x2, x0c_5x2⟩ := (Bx.new_ w5 (w5.heap.size) 49 #[.int .i64 wd0, .int .i64 ht0, .slice E5 xs0.length f5] (by simp)).three
    go_upto_region 7 with fail
    have r0_6 := (r0_5).alloc (.cells #[.int .i64 wd0, .int .i64 ht0, .slice E5 xs0.length f5] 49)
    have p0_6 := (p0_5).alloc (.cells #[.int .i64 wd0, .int .i64 ht0, .slice E5 xs0.length f5] 49)
    obtain ⟨p0a_6, p0b_6, p0c_6⟩ := p0_6.three
    have p1_6 := (p1_5).alloc (.cells #[.int .i64 wd0, .int .i64 ht0, .slice E5 xs0.length f5] 49)
    obtain ⟨p1a_6, p1b_6⟩ := p1_6.two
    have w0_6 := (w0_5).alloc (.cells #[.int .i64 wd0, .int .i64 ht0, .slice E5 xs0.length f5] 49)
    obtain ⟨w0a_6, w0b_6⟩ := w0_6.two
    have t0_0_6 := (t0_0_5).alloc (.cells #[.int .i64 wd0, .int .i64 ht0, .slice E5 xs0.length f5] 49)
    have x0_6 := Bx.new_ w5 (w5.heap.size) 49 #[.int .i64 wd0, .int .i64 ht0, .slice E5 xs0.length f5] (by simp)
    obtain ⟨x0a_6, x0b_6, x0c_6⟩ := x0_6.three
    have B_6 := (B_5).alloc (by first | omega | (simp; omega) | simp) (.cells #[.int .i64 wd0, .int .i64 ht0, .slice E5 xs0.length f5] 49)
    have z_6 : (w5.alloc (.cells #[.int .i64 wd0, .int .i64 ht0, .slice E5 xs0.length f5] 49)).heap.size ≤ (w5.alloc (.cells #[.int .i64 wd0, .int .i64 ht0, .slice E5 xs0.length f5] 49)).heap.size := Nat.le_refl _
    have zz_6 : w5.heap.size < (w5.alloc (.cells #[.int .i64 wd0, .int .i64 ht0, .slice E5 xs0.length f5] 49)).heap.size := by simp
    generalize (w5.alloc (.cells #[.int .i64 wd0, .int .i64 ht0, .slice E5 xs0.length f5] 49)) = w6 at *
    go_cut [11, 12] (fun s11 s12 wx => ∃ (G : Nat), s11 = .pointer (some ⟨G, 0, none⟩) ∧ s12 = .int .i64 v1 ∧ Below w6.heap.size w6 wx ∧ w6.heap.size ≤ G ∧ Bx wx G 30 #[.int .i64 vx0, .int .i64 vy0])
    case first =>
      have C0 : Below w6.heap.size w6 w6.drew := (Below.refl w6.heap.size w6).drew
      have keepS : Hid (∀ W, Below w6.heap.size w6 W → (fun w' : World => w'.cell? ⟨w.heap.size, 0, none⟩ = some (.int .i64 wd0) ∧ w'.cell? ⟨w.heap.size, 1, none⟩ = some (.int .i64 ht0) ∧ w'.cell? ⟨w.heap.size, 2, none⟩ = some (.slice A0 xs0.length c0) ∧ w'.cell? ⟨w.heap.size + 1, 0, none⟩ = some (.int .i64 px1) ∧ w'.cell? ⟨w.heap.size + 1, 1, none⟩ = some (.int .i64 py1) ∧ w'.cell? ⟨G4, 0, none⟩ = some (.int .i64 vx0) ∧ w'.cell? ⟨G4, 1, none⟩ = some (.int .i64 vy0) ∧ w'.cell? ⟨w5.heap.size, 0, none⟩ = some (.int .i64 wd0) ∧ w'.cell? ⟨w5.heap.size, 1, none⟩ = some (.int .i64 ht0) ∧ w'.cell? ⟨w5.heap.size, 2, none⟩ = some (.slice E5 xs0.length f5)) W) := hide (fun W hW => ⟨((p0_6).below hW).three.1, ((p0_6).below hW).three.2.1, ((p0_6).below hW).three.2.2, ((p1_6).below hW).two.1, ((p1_6).below hW).two.2, ((w0_6).below hW).two.1, ((w0_6).below hW).two.2, ((x0_6).below hW).three.1, ((x0_6).below hW).three.2.1, ((x0_6).below hW).three.2.2⟩)
      go_region_held3 (fun w' => w'.cell? ⟨w.heap.size, 0, none⟩ = some (.int .i64 wd0) ∧ w'.cell? ⟨w.heap.size, 1, none⟩ = some (.int .i64 ht0) ∧ w'.cell? ⟨w.heap.size, 2, none⟩ = some (.slice A0 xs0.length c0) ∧ w'.cell? ⟨w.heap.size + 1, 0, none⟩ = some (.int .i64 px1) ∧ w'.cell? ⟨w.heap.size + 1, 1, none⟩ = some (.int .i64 py1) ∧ w'.cell? ⟨G4, 0, none⟩ = some (.int .i64 vx0) ∧ w'.cell? ⟨G4, 1, none⟩ = some (.int .i64 vy0) ∧ w'.cell? ⟨w5.heap.size, 0, none⟩ = some (.int .i64 wd0) ∧ w'.cell? ⟨w5.heap.size, 1, none⟩ = some (.int .i64 ht0) ∧ w'.cell? ⟨w5.heap.size, 2, none⟩ = some (.slice E5 xs0.length f5)) (first | exact keepS.out _ (by first | exact C8 | exact C8.alloc C8.size _ | exact C7 | exact C7.alloc C7.size _ | exact C0 | exact C0.alloc C0.size _ | exact ((C8).setCell (Below.size C8) _).setCell (Below.size C8) _ | exact ((C8).setCell (Below.size C7) _).setCell (Below.size C7) _ | exact ((C8).setCell (Below.size C0) _).setCell (Below.size C0) _ | exact ((C8.alloc (Below.size C8) _).setCell (Below.size C8) _).setCell (Below.size C8) _) | fail) (first | (go_at_call_of 31 (Value.agg #[.int .i64 px1, .int .i64 py1]); refine (toPoint_any _ _ _).mono ?_; rintro e w7 ⟨rfl, hb7⟩; have C7 : Below w6.heap.size w6 w7 := Below.trans (by first | exact C0 | exact C0.alloc C0.size _) (hb7.mono (by first | exact C0.size | exact (C0.alloc C0.size _).size)); (try (have box7 := (Bx.new _ _ _).below hb7; (try simp only [World.size_drew] at box7); obtain ⟨ba7, bb7⟩ := box7.two; have bf7 := box7.frozen 0; have bg7 := box7.frozen 1)); (try (have box7 := ((Bx.new _ _ _).drew).below hb7; (try simp only [World.size_drew] at box7); obtain ⟨ba7, bb7⟩ := box7.two; have bf7 := box7.frozen 0; have bg7 := box7.frozen 1))) | (go_at_call 32; refine (himpl.out _ _ _ (((t0_0_6).below (by first | exact C7 | exact C7.alloc C7.size _ | exact C0 | exact C0.alloc C0.size _)).rd) (t0_0_6).cap_).mono ?_; rintro e w8 ⟨rfl, hb8⟩; have C8 : Below w6.heap.size w6 w8 := Below.trans (by first | exact C7 | exact C7.alloc C7.size _ | exact C0 | exact C0.alloc C0.size _) (hb8.mono (by first | exact C7.size | exact (C7.alloc C7.size _).size | exact C0.size | exact (C0.alloc C0.size _).size)); (try (have box8 := (Bx.new _ _ _).below hb8; (try simp only [World.size_drew] at box8); obtain ⟨ba8, bb8⟩ := box8.two; have bf8 := box8.frozen 0; have bg8 := box8.frozen 1)); (try (have box8 := ((Bx.new _ _ _).drew).below hb8; (try simp only [World.size_drew] at box8); obtain ⟨ba8, bb8⟩ := box8.two; have bf8 := box8.frozen 0; have bg8 := box8.frozen 1)); (try (have box8 := box7.below hb8; obtain ⟨ba8, bb8⟩ := box8.two; have bf8 := box8.frozen 0; have bg8 := box8.frozen 1))) | fail)
      all_goals go_wp2_with fail
      all_goals go_meet
      all_goals first
        | exact ⟨_, rfl, rfl, C8.alloc (Below.size C8) _, Below.size C8, Bx.new _ _ _⟩
        | exact ⟨_, rfl, rfl, (C8.setCell (by first | exact Nat.le_refl _ | exact Below.size C8 | exact Below.size C7 | exact Below.size C0) _).setCell (by first | exact Nat.le_refl _ | exact Below.size C8 | exact Below.size C7 | exact Below.size C0) _, (by first | exact Nat.le_refl _ | exact Below.size C8 | exact Below.size C7 | exact Below.size C0), (box8.set_ 0 _).set_ 1 _⟩
    case rest =>
      obtain ⟨G8, rfl, rfl, hb8, hG8, bx8⟩ := hcut
      obtain ⟨w8, rfl⟩ : ∃ w8 : World, w8 = wc := ⟨_, rfl⟩
      have r0_8 := (r0_6).below hb8
      have p0_8 := (p0_6).below hb8
      obtain ⟨p0a_8, p0b_8, p0c_8⟩ := p0_8.three
      have p1_8 := (p1_6).below hb8
      obtain ⟨p1a_8, p1b_8⟩ := p1_8.two
      have w0_8 := (w0_6).below hb8
      obtain ⟨w0a_8, w0b_8⟩ := w0_8.two
      have t0_0_8 := (t0_0_6).below hb8
      have x0_8 := (x0_6).below hb8
      obtain ⟨x0a_8, x0b_8, x0c_8⟩ := x0_8.three
      have z_8 : w6.heap.size ≤ w8.heap.size := hb8.size
      have B_8 := (B_6).trans (hb8.mono (by first | omega | (simp; omega) | simp))
      have g0_8 := bx8
      obtain ⟨g0a_8, g0b_8⟩ := g0_8.two
      go_wp2_with fail
      refine (eqPoint_any _ _ _ _ _).mono ?_
      rintro e w9 ⟨rfl, hb9⟩
      have r0_9 := (r0_8).below hb9
      have p0_9 := (p0_8).below hb9
      obtain ⟨p0a_9, p0b_9, p0c_9⟩ := p0_9.three
      have p1_9 := (p1_8).below hb9
      obtain ⟨p1a_9, p1b_9⟩ := p1_9.two
      have w0_9 := (w0_8).below hb9
      obtain ⟨w0a_9, w0b_9⟩ := w0_9.two
      have t0_0_9 := (t0_0_8).below hb9
      have x0_9 := (x0_8).below hb9
      obtain ⟨x0a_9, x0b_9, x0c_9⟩ := x0_9.three
      have g0_9 := (g0_8).below hb9
      obtain ⟨g0a_9, g0b_9⟩ := g0_9.two
      have z_9 : w8.heap.size ≤ w9.heap.size := hb9.size
      have B_9 := (B_8).trans (hb9.mono (by first | omega | (simp; omega) | simp))
      go_wp2_with fail
      go_region_held3 (fun w' => w'.cell? ⟨w.heap.size, 0, none⟩ = some (.int .i64 wd0) ∧ w'.cell? ⟨w.heap.size, 1, none⟩ = some (.int .i64 ht0) ∧ w'.cell? ⟨w.heap.size, 2, none⟩ = some (.slice A0 xs0.length c0) ∧ w'.cell? ⟨w.heap.size + 1, 0, none⟩ = some (.int .i64 px1) ∧ w'.cell? ⟨w.heap.size + 1, 1, none⟩ = some (.int .i64 py1) ∧ w'.cell? ⟨G4, 0, none⟩ = some (.int .i64 vx0) ∧ w'.cell? ⟨G4, 1, none⟩ = some (.int .i64 vy0) ∧ w'.cell? ⟨w5.heap.size, 0, none⟩ = some (.int .i64 wd0) ∧ w'.cell? ⟨w5.heap.size, 1, none⟩ = some (.int .i64 ht0) ∧ w'.cell? ⟨w5.heap.size, 2, none⟩ = some (.slice E5 xs0.length f5) ∧ w'.cell? ⟨G8, 0, none⟩ = some (.int .i64 vx0) ∧ w'.cell? ⟨G8, 1, none⟩ = some (.int .i64 vy0)) (first | exact ⟨p0a_9, p0b_9, p0c_9, p1a_9, p1b_9, w0a_9, w0b_9, x0a_9, x0b_9, x0c_9, g0a_9, g0b_9⟩ | exact ⟨p0a_10, p0b_10, p0c_10, p1a_10, p1b_10, w0a_10, w0b_10, x0a_10, x0b_10, x0c_10, g0a_10, g0b_10⟩ | exact ⟨p0a_11, p0b_11, p0c_11, p1a_11, p1b_11, w0a_11, w0b_11, x0a_11, x0b_11, x0c_11, g0a_11, g0b_11⟩ | exact ⟨((p0_11).alloc _).three.1, ((p0_11).alloc _).three.2.1, ((p0_11).alloc _).three.2.2, ((p1_11).alloc _).two.1, ((p1_11).alloc _).two.2, ((w0_11).alloc _).two.1, ((w0_11).alloc _).two.2, ((x0_11).alloc _).three.1, ((x0_11).alloc _).three.2.1, ((x0_11).alloc _).three.2.2, ((g0_11).alloc _).two.1, ((g0_11).alloc _).two.2⟩) (first | (go_at_call 30; refine (toPanel_any _ _ _ _ xs0 _ ((r0_9).drew) hn0).mono ?_; rintro e w10 ⟨E10, f10, rfl, t0_2_10, hb10⟩; have r0_10 := ((r0_9).drew).below hb10; have p0_10 := ((p0_9).drew).below hb10; obtain ⟨p0a_10, p0b_10, p0c_10⟩ := p0_10.three; have p1_10 := ((p1_9).drew).below hb10; obtain ⟨p1a_10, p1b_10⟩ := p1_10.two; have w0_10 := ((w0_9).drew).below hb10; obtain ⟨w0a_10, w0b_10⟩ := w0_10.two; have t0_0_10 := ((t0_0_9).drew).below hb10; have x0_10 := ((x0_9).drew).below hb10; obtain ⟨x0a_10, x0b_10, x0c_10⟩ := x0_10.three; have g0_10 := ((g0_9).drew).below hb10; obtain ⟨g0a_10, g0b_10⟩ := g0_10.two; have z_10 : w9.drew.heap.size ≤ w10.heap.size := hb10.size; simp only [World.size_drew] at z_10; have B_10 := ((B_9).drew).trans (hb10.mono (by first | omega | (simp; omega) | simp))) | (go_at_call 33; refine (eqPanel_any _ _ _ _ _ _ _ _ xs0 xs0 _ ((t0_0_10).rd) ((t0_2_10).rd) hn0 hn0).mono ?_; rintro e w11 ⟨rfl, hb11⟩; have r0_11 := (r0_10).below hb11; have p0_11 := (p0_10).below hb11; obtain ⟨p0a_11, p0b_11, p0c_11⟩ := p0_11.three; have p1_11 := (p1_10).below hb11; obtain ⟨p1a_11, p1b_11⟩ := p1_11.two; have w0_11 := (w0_10).below hb11; obtain ⟨w0a_11, w0b_11⟩ := w0_11.two; have t0_0_11 := (t0_0_10).below hb11; have x0_11 := (x0_10).below hb11; obtain ⟨x0a_11, x0b_11, x0c_11⟩ := x0_11.three; have g0_11 := (g0_10).below hb11; obtain ⟨g0a_11, g0b_11⟩ := g0_11.two; have t0_2_11 := (t0_2_10).below hb11; have z_11 : w10.heap.size ≤ w11.heap.size := hb11.size; have B_11 := (B_10).trans (hb11.mono (by first | omega | (simp; omega) | simp))))
      go_wp2_with fail
      go_ret
      exact ⟨rfl, B_11⟩

theorem walk_NearestPoint_of (wd0 ht0 : Int) (A0 : Option Addr) (c0 : Nat) (xs0 : List Int) (px1 py1 : Int) (a2 : Int) (w : World) (hx0 : ArgI w A0 c0 xs0)
    (h : xs0.length ≤ 1048576 → ∃ (vx0 vy0 : Int) (v1 : Int), (∀ (W : World) (B0 : Option Addr) (d0 : Nat), RI W B0 xs0 → (xs0.length ≤ d0 ∧ d0 ≤ 9223372036854775807) → Calls Try.prog 29 #[.agg #[.int .i64 wd0, .int .i64 ht0, .slice B0 xs0.length d0], .agg #[.int .i64 px1, .int .i64 py1], .int .i64 a2] W (RetV W (.tuple #[.agg #[.int .i64 vx0, .int .i64 vy0], .int .i64 v1]))) ∧ (∀ (W : World) (B0 : Option Addr) (d0 : Nat), RI W B0 xs0 → (xs0.length ≤ d0 ∧ d0 ≤ 9223372036854775807) → Calls Try.prog 32 #[.agg #[.int .i64 wd0, .int .i64 ht0, .slice B0 xs0.length d0], .agg #[.int .i64 px1, .int .i64 py1], .int .i64 a2] W (RetV W (.tuple #[.agg #[.int .i64 vx0, .int .i64 vy0], .int .i64 v1])))) :
    Calls Try.prog 9 #[.agg #[.int .i64 wd0, .int .i64 ht0, .slice A0 xs0.length c0], .agg #[.int .i64 px1, .int .i64 py1], .int .i64 a2] w fun e w' => e = .returned (.bool true) ∧ Below w.heap.size w w' := by
  by_cases hs : xs0.length ≤ 1048576
  · obtain ⟨vx0, vy0, v1, h1, h2⟩ := h hs
    exact walk_NearestPoint_core wd0 ht0 A0 c0 xs0 px1 py1 a2 w hx0 hs vx0 vy0 v1  h1 h2
  · exact walk_NearestPoint_big0 wd0 ht0 A0 c0 xs0 px1 py1 a2 w hx0 (by omega)

end Go.Proofs.Ytbleipaekdhdmaa
