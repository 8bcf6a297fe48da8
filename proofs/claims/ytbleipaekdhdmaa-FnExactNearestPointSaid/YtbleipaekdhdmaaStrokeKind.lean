/-
  Contracts: StrokeKind and StrokeBox, of the reference and of the program. Conditions: none beyond the lengths.
-/
import Derived.Test.YtbleipaekdhdmaaStrokeBoxI
import Derived.Outline
namespace Go.Proofs.Ytbleipaekdhdmaa
open Go.RowKit
set_option linter.unusedVariables false

/-- all four numbers of a box are a stroke's -/
def inBoxB (b : (Int × Int) × (Int × Int)) : Prop := (0 ≤ b.1.1 ∧ b.1.1 ≤ 2000) ∧ (0 ≤ b.1.2 ∧ b.1.2 ≤ 2000) ∧ (0 ≤ b.2.1 ∧ b.2.1 ≤ 2000) ∧ (0 ≤ b.2.2 ∧ b.2.2 ≤ 2000)
theorem below_drewN {B : Nat} {a b : World} (h : Below B a b) (n : Nat) : Below B a (b.drewN n) := ⟨h.os, h.tape, h.output, h.size, h.block⟩
theorem placeB_in {p : Int × Int} (h : placeB p = true) : (0 ≤ p.1 ∧ p.1 ≤ 2000) ∧ (0 ≤ p.2 ∧ p.2 ≤ 2000) := by
  unfold placeB at h
  rw [Bool.and_eq_true, inB_true, inB_true] at h
  exact h
theorem stepB_in {b : (Int × Int) × (Int × Int)} {p : Int × Int} (hb : inBoxB b) (hp : placeB p = true) : inBoxB (stepB b p) := by
  obtain ⟨h1, h2, h3, h4⟩ := hb
  obtain ⟨h5, h6⟩ := placeB_in hp
  unfold inBoxB stepB lowP highP
  refine ⟨?_, ?_, ?_, ?_⟩ <;> (simp only []; split <;> assumption)
theorem fold_in {ps : List (Int × Int)} {b : (Int × Int) × (Int × Int)} (hb : inBoxB b) (hp : ps.all placeB = true) : inBoxB (ps.foldl stepB b) := by
  induction ps generalizing b with
  | nil => exact hb
  | cons q t ih =>
    rw [List.all_cons, Bool.and_eq_true] at hp
    exact ih (stepB_in hb hp.1) hp.2
theorem boxS_in {ps : List (Int × Int)} (h : vldS ps = true) : inBoxB (boxS ps) ∧ 0 < ps.length ∧ ps.length ≤ 60 := by
  unfold vldS at h
  rw [Bool.and_eq_true, inB_true] at h
  obtain ⟨⟨h1, h2⟩, h3⟩ := h
  cases ps with
  | nil => simp at h1
  | cons q t =>
    have hq := h3
    rw [List.all_cons, Bool.and_eq_true] at hq
    obtain ⟨h5, h6⟩ := placeB_in hq.1
    exact ⟨fold_in ⟨h5, h6, h5, h6⟩ h3, by simp, by omega⟩

/-- a stroke's kind, from its width and height -/
def kindW (wd ht scale : Int) : Int := if 2 * wd < scale ∧ 2 * ht < scale then 0 else if 2 * wd ≤ ht then 1 else if 2 * ht ≤ wd then 2 else 3
def kindS (ps : List (Int × Int)) (scale : Int) : Int := kindW ((boxS ps).2.1 - (boxS ps).1.1) ((boxS ps).2.2 - (boxS ps).1.2) scale

set_option linter.unusedSimpArgs false in
set_option maxHeartbeats 4000000 in
theorem l19Kind_any (A : Option Addr) (c : Nat) (ps : List (Int × Int)) (scale : Int) (w : World) (h : RP w A ps) (hv : vldS ps = true) (hs0 : 2 ≤ scale) (hs1 : scale ≤ 100) :
    Calls Try.prog 50 #[.slice A ps.length c, .int .i64 scale] w (RetV w (.int .i64 (kindS ps scale))) := by
  obtain ⟨hin, hpos, hlen⟩ := boxS_in hv
  have hcall := l19Box_any A c ps w h (by omega) hpos
  have HK := hide (show kindS ps scale = kindW ((boxS ps).2.1 - (boxS ps).1.1) ((boxS ps).2.2 - (boxS ps).1.2) scale from rfl)
  obtain ⟨B, hB⟩ : ∃ B, B = boxS ps := ⟨_, rfl⟩
  rw [← hB] at hin hcall HK
  obtain ⟨⟨lx, ly⟩, ⟨hx, hy⟩⟩ := B
  obtain ⟨⟨a1, a2⟩, ⟨a3, a4⟩, ⟨a5, a6⟩, ⟨a7, a8⟩⟩ := hin
  simp only at a1 a2 a3 a4 a5 a6 a7 a8 hcall HK
  have HC := hide hcall
  clear hcall hB
  unfold kindW at HK
  by_cases k1 : 2 * (hx - lx) < scale
  all_goals by_cases k2 : 2 * (hy - ly) < scale
  all_goals by_cases k3 : 2 * (hx - lx) ≤ hy - ly
  all_goals by_cases k4 : 2 * (hy - ly) ≤ hx - lx
  all_goals try (exfalso; omega)
  all_goals
    simp only [k1, k2, k3, k4, and_self, and_true, true_and, and_false, false_and, if_true, if_false] at HK
    go_enter Try.func50, Try.ntmps50
    go_wp2_with fail
    refine (HC.out).mono ?_
    rintro e w1 ⟨rfl, hb⟩
    go_wp2_with fail
    go_ret
    rw [HK.out]
    exact ⟨rfl, (hb.alloc hb.size _).alloc (by simp; have := hb.size; omega) _⟩

theorem l19Scale_any (x : Int) (w : World) : Calls Try.prog 49 #[.int .i64 x] w fun e w' => e = .returned (.bool (inB x 2 100)) ∧ w = w' := by
  go_enter Try.func49, Try.ntmps49
  go_wp2_with (go_at_call 42; refine (l00In_any _ _ _ _).mono ?_; rintro e w' ⟨rfl, rfl⟩)
  go_ret
  exact ⟨rfl, rfl⟩
theorem validScale_any (x : Int) (w : World) : Calls Try.prog 51 #[.int .i64 x] w fun e w' => e = .returned (.bool (inB x 2 100)) ∧ w = w' := by
  go_enter Try.func51, Try.ntmps51
  go_wp2_with (go_at_call 35; refine (inRange_any _ _ _ _).mono ?_; rintro e w' ⟨rfl, rfl⟩)
  go_ret
  exact ⟨rfl, rfl⟩

set_option linter.unusedSimpArgs false in
set_option maxHeartbeats 4000000 in
theorem strokeKind_any (A : Option Addr) (c : Nat) (ps : List (Int × Int)) (scale : Int) (w : World) (h : RP w A ps) (hv : vldS ps = true) (hs0 : 2 ≤ scale) (hs1 : scale ≤ 100) :
    Calls Try.prog 52 #[.slice A ps.length c, .int .i64 scale] w (RetV w (.int .i64 (kindS ps scale))) := by
  obtain ⟨hin, hpos, hlen⟩ := boxS_in hv
  have hcall := boxOf_any A c ps w h (by omega) hpos
  have HK := hide (show kindS ps scale = kindW ((boxS ps).2.1 - (boxS ps).1.1) ((boxS ps).2.2 - (boxS ps).1.2) scale from rfl)
  obtain ⟨B, hB⟩ : ∃ B, B = boxS ps := ⟨_, rfl⟩
  rw [← hB] at hin hcall HK
  obtain ⟨⟨lx, ly⟩, ⟨hx, hy⟩⟩ := B
  obtain ⟨⟨a1, a2⟩, ⟨a3, a4⟩, ⟨a5, a6⟩, ⟨a7, a8⟩⟩ := hin
  simp only at a1 a2 a3 a4 a5 a6 a7 a8 hcall HK
  have HC := hide hcall
  clear hcall hB
  unfold kindW at HK
  have i1 : IntKind.i64.wrap (hx - lx) = hx - lx := by rw [IntKind.wrap_i64]; omega
  have i2 : IntKind.i64.wrap (hy - ly) = hy - ly := by rw [IntKind.wrap_i64]; omega
  have I1 := hide i1
  have I2 := hide i2
  clear i1 i2
  by_cases k1 : 2 * (hx - lx) < scale
  all_goals by_cases k2 : 2 * (hy - ly) < scale
  all_goals by_cases k3 : 2 * (hx - lx) ≤ hy - ly
  all_goals by_cases k4 : 2 * (hy - ly) ≤ hx - lx
  all_goals try (exfalso; omega)
  all_goals
    simp only [k1, k2, k3, k4, and_self, and_true, true_and, and_false, false_and, if_true, if_false] at HK
    go_enter Try.func52, Try.ntmps52
    go_wp2_with fail
    refine (HC.out).mono ?_
    rintro e w1 ⟨rfl, hb⟩
    go_wp2_with fail
    have i1 := I1.out
    have i2 := I2.out
    go_quiet (fail)
    clear i1 i2
    go_wp2_with fail
    go_ret
    rw [HK.out]
    exact ⟨rfl, below_drewN ((hb.alloc hb.size _).alloc (by simp; have := hb.size; omega) _) _⟩

/-- StrokeKind's two answers -/
def kindR (ps : List (Int × Int)) (scale : Int) : Int × Int := if vldS ps = true then (if inB scale 2 100 = true then (kindS ps scale, 0) else (0, 2)) else (0, 1)
theorem specStrokeKind_any (A : Option Addr) (c : Nat) (ps : List (Int × Int)) (scale : Int) (w : World) (h : RP w A ps) (hn : ps.length ≤ 1048576) :
    Calls Try.prog 26 #[.slice A ps.length c, .int .i64 scale] w (RetV w (.tuple #[.int .i64 (kindR ps scale).1, .int .i64 (kindR ps scale).2])) := by
  unfold kindR
  cases hv : vldS ps
  · go_enter Try.func26, Try.ntmps26
    go_wp2_with fail
    refine (l19Ok_any _ _ ps _ h hn).mono ?_
    rintro e w1 ⟨rfl, rfl⟩
    rw [hv]
    go_wp2_with fail
    go_ret2
    exact ⟨rfl, Below.refl _ _⟩
  · cases hs : inB scale 2 100
    · go_enter Try.func26, Try.ntmps26
      go_wp2_with (first | (go_at_call 34; refine (l19Ok_any _ _ ps _ h hn).mono ?_; rw [hv]; rintro e w1 ⟨rfl, rfl⟩) | (go_at_call 49; refine (l19Scale_any _ _).mono ?_; rw [hs]; rintro e w1 ⟨rfl, rfl⟩))
      go_ret2
      exact ⟨rfl, Below.refl _ _⟩
    · obtain ⟨s0, s1⟩ := inB_true.1 hs
      go_enter Try.func26, Try.ntmps26
      go_wp2_with (first | (go_at_call 34; refine (l19Ok_any _ _ ps _ h hn).mono ?_; rw [hv]; rintro e w1 ⟨rfl, rfl⟩) | (go_at_call 49; refine (l19Scale_any _ _).mono ?_; rw [hs]; rintro e w1 ⟨rfl, rfl⟩))
      refine (l19Kind_any _ _ ps scale _ h hv s0 s1).mono ?_
      rintro e w1 ⟨rfl, hb⟩
      go_wp2_with fail
      go_ret2
      exact ⟨rfl, hb⟩
theorem implStrokeKind_any (A : Option Addr) (c : Nat) (ps : List (Int × Int)) (scale : Int) (w : World) (h : RP w A ps) (hn : ps.length ≤ 1048576) :
    Calls Try.prog 27 #[.slice A ps.length c, .int .i64 scale] w (RetV w (.tuple #[.int .i64 (kindR ps scale).1, .int .i64 (kindR ps scale).2])) := by
  unfold kindR
  cases hv : vldS ps
  · go_enter Try.func27, Try.ntmps27
    go_wp2_with fail
    refine (implValidStroke_any _ _ ps _ h hn).mono ?_
    rintro e w1 ⟨rfl, hb⟩
    rw [hv]
    go_wp2_with fail
    go_ret2
    exact ⟨rfl, hb⟩
  · cases hs : inB scale 2 100
    · go_enter Try.func27, Try.ntmps27
      go_wp2_with fail
      refine (implValidStroke_any _ _ ps _ h hn).mono ?_
      rintro e w1 ⟨rfl, hb⟩
      rw [hv]
      go_wp2_with (first | (go_at_call 51; refine (validScale_any _ _).mono ?_; rw [hs]; rintro e w1 ⟨rfl, rfl⟩))
      go_ret2
      exact ⟨rfl, hb⟩
    · obtain ⟨s0, s1⟩ := inB_true.1 hs
      go_enter Try.func27, Try.ntmps27
      go_wp2_with fail
      refine (implValidStroke_any _ _ ps _ h hn).mono ?_
      rintro e w1 ⟨rfl, hb⟩
      rw [hv]
      go_wp2_with (first | (go_at_call 51; refine (validScale_any _ _).mono ?_; rw [hs]; rintro e w1 ⟨rfl, rfl⟩))
      refine (strokeKind_any _ _ ps scale _ (h.below hb) hv s0 s1).mono ?_
      rintro e w2 ⟨rfl, hb2⟩
      go_wp2_with fail
      go_ret2
      exact ⟨rfl, hb.trans (hb2.mono hb.size)⟩

/-- StrokeBox's answers -/
def boxR (ps : List (Int × Int)) : ((Int × Int) × (Int × Int)) × Int := if vldS ps = true then (boxS ps, 0) else (((0, 0), (0, 0)), 1)
def boxV (r : ((Int × Int) × (Int × Int)) × Int) : Value := .tuple #[.agg #[.int .i64 r.1.1.1, .int .i64 r.1.1.2], .agg #[.int .i64 r.1.2.1, .int .i64 r.1.2.2], .int .i64 r.2]
theorem specOk_any (A : Option Addr) (c : Nat) (ps : List (Int × Int)) (w : World) (h : RP w A ps) (hn : ps.length ≤ 1048576) :
    Calls Try.prog 34 #[.slice A ps.length c] w (RetV w (.bool (vldS ps))) := by
  refine (l19Ok_any A c ps w h hn).mono ?_
  rintro e w' ⟨rfl, rfl⟩
  exact ⟨rfl, Below.refl _ _⟩
set_option maxHeartbeats 1000000 in
theorem specStrokeBox_any (A : Option Addr) (c : Nat) (ps : List (Int × Int)) (w : World) (h : RP w A ps) (hn : ps.length ≤ 1048576) :
    Calls Try.prog 15 #[.slice A ps.length c] w (RetV w (boxV (boxR ps))) := by
  unfold boxR boxV
  cases hv : vldS ps
  · go_enter Try.func15, Try.ntmps15
    go_wp2_with fail
    refine (l19Ok_any _ _ ps _ ((h.alloc _).alloc _) hn).mono ?_
    rintro e w1 ⟨rfl, rfl⟩
    rw [hv]
    go_wp2_with fail
    refine bodyPost_ret (v := .tuple #[.agg #[.int .i64 0, .int .i64 0], .agg #[.int .i64 0, .int .i64 0], .int .i64 1]) (by simp [results, Try.results15, go_sem]) rfl ?_
    exact ⟨rfl, ((Below.refl _ _).alloc (Nat.le_refl _) _).alloc (by simp) _⟩
  · obtain ⟨hin, hpos, hlen⟩ := boxS_in hv
    have hcall := fun W (hW : RP W A ps) => l19Box_any A c ps W hW (by omega) hpos
    obtain ⟨B, hB0⟩ : ∃ B, B = boxS ps := ⟨_, rfl⟩
    rw [← hB0] at hcall
    rw [if_pos rfl, ← hB0]
    obtain ⟨⟨lx, ly⟩, ⟨hx, hy⟩⟩ := B
    clear hB0 hin
    have HC := hide hcall
    clear hcall
    go_enter Try.func15, Try.ntmps15
    go_wp2_with fail
    refine (specOk_any _ _ ps _ ((h.alloc _).alloc _) hn).mono ?_
    rintro e w1 ⟨rfl, hb1⟩
    have p2_1 := ((Bx.new_ w (w.heap.size) 30 #[.int .i64 0, .int .i64 0] (by simp)).alloc (.cells #[.int .i64 0, .int .i64 0] 30)).below hb1
    obtain ⟨p2a_1, p2b_1⟩ := (p2_1).two
    have p2f0_1 := (p2_1).frozen 0
    have p2f1_1 := (p2_1).frozen 1
    have p3_1 := (Bx.new_ (w.alloc (.cells #[.int .i64 0, .int .i64 0] 30)) (w.heap.size + 1) 30 #[.int .i64 0, .int .i64 0] (by simp)).below hb1
    obtain ⟨p3a_1, p3b_1⟩ := (p3_1).two
    have p3f0_1 := (p3_1).frozen 0
    have p3f1_1 := (p3_1).frozen 1
    have hr_1 := ((h.alloc _).alloc _).below hb1
    have z_1 : ((w.alloc (.cells #[.int .i64 0, .int .i64 0] 30)).alloc (.cells #[.int .i64 0, .int .i64 0] 30)).heap.size ≤ w1.heap.size := hb1.size
    simp only [World.size_alloc] at z_1
    have B_1 := (((Below.refl w.heap.size w).alloc (by first | omega | (simp; omega) | simp) (.cells #[.int .i64 0, .int .i64 0] 30)).alloc (by first | omega | (simp; omega) | simp) (.cells #[.int .i64 0, .int .i64 0] 30)).trans (hb1.mono (by first | omega | (simp; omega) | simp))
    rw [hv]
    go_wp2_with fail
    refine (HC.out _ (hr_1)).mono ?_
    rintro e w2 ⟨rfl, hb2⟩
    have p2_2 := (p2_1).below hb2
    obtain ⟨p2a_2, p2b_2⟩ := (p2_2).two
    have p2f0_2 := (p2_2).frozen 0
    have p2f1_2 := (p2_2).frozen 1
    have p3_2 := (p3_1).below hb2
    obtain ⟨p3a_2, p3b_2⟩ := (p3_2).two
    have p3f0_2 := (p3_2).frozen 0
    have p3f1_2 := (p3_2).frozen 1
    have hr_2 := (hr_1).below hb2
    have z_2 : w1.heap.size ≤ w2.heap.size := hb2.size
    have B_2 := (B_1).trans (hb2.mono (by first | omega | (simp; omega) | simp))
    obtain ⟨p2a_x1, p2b_x1⟩ := (((p2_2).alloc (.cells #[.int .i64 lx, .int .i64 ly] 30)).alloc (.cells #[.int .i64 hx, .int .i64 hy] 30)).two
    have p2f0_x1 := (((p2_2).alloc (.cells #[.int .i64 lx, .int .i64 ly] 30)).alloc (.cells #[.int .i64 hx, .int .i64 hy] 30)).frozen 0
    have p2f1_x1 := (((p2_2).alloc (.cells #[.int .i64 lx, .int .i64 ly] 30)).alloc (.cells #[.int .i64 hx, .int .i64 hy] 30)).frozen 1
    obtain ⟨p3a_x1, p3b_x1⟩ := (((p3_2).alloc (.cells #[.int .i64 lx, .int .i64 ly] 30)).alloc (.cells #[.int .i64 hx, .int .i64 hy] 30)).two
    have p3f0_x1 := (((p3_2).alloc (.cells #[.int .i64 lx, .int .i64 ly] 30)).alloc (.cells #[.int .i64 hx, .int .i64 hy] 30)).frozen 0
    have p3f1_x1 := (((p3_2).alloc (.cells #[.int .i64 lx, .int .i64 ly] 30)).alloc (.cells #[.int .i64 hx, .int .i64 hy] 30)).frozen 1
    obtain ⟨p4a_x1, p4b_x1⟩ := ((Bx.new_ w2 (w2.heap.size) 30 #[.int .i64 lx, .int .i64 ly] (by simp)).alloc (.cells #[.int .i64 hx, .int .i64 hy] 30)).two
    obtain ⟨p5a_x1, p5b_x1⟩ := (Bx.new_ (w2.alloc (.cells #[.int .i64 lx, .int .i64 ly] 30)) (w2.heap.size + 1) 30 #[.int .i64 hx, .int .i64 hy] (by simp)).two
    have q3 := (((p3_2).alloc (.cells #[.int .i64 lx, .int .i64 ly] 30)).alloc (.cells #[.int .i64 hx, .int .i64 hy] 30)).far (p := ⟨w.heap.size, 0, none⟩) (by simp) (.int .i64 lx)
    have q3 := q3.far (p := ⟨w.heap.size, 1, none⟩) (by simp) (.int .i64 ly)
    obtain ⟨q3a, q3b⟩ := q3.two
    have q3f := q3.frozen 0
    have q3g := q3.frozen 1
    go_wp2_with fail
    go_region
    all_goals go_wp2_with fail
    obtain ⟨p2a_z, p2b_z⟩ := (((((((p2_2).alloc (.cells #[.int .i64 lx, .int .i64 ly] 30)).alloc (.cells #[.int .i64 hx, .int .i64 hy] 30)).set_ 0 (.int .i64 lx)).set_ 1 (.int .i64 ly)).far (p := ⟨(w.heap.size + 1), 0, none⟩) (by first | omega | (simp; omega) | simp) (.int .i64 hx)).far (p := ⟨(w.heap.size + 1), 1, none⟩) (by first | omega | (simp; omega) | simp) (.int .i64 hy)).two
    have p2f0_z := (((((((p2_2).alloc (.cells #[.int .i64 lx, .int .i64 ly] 30)).alloc (.cells #[.int .i64 hx, .int .i64 hy] 30)).set_ 0 (.int .i64 lx)).set_ 1 (.int .i64 ly)).far (p := ⟨(w.heap.size + 1), 0, none⟩) (by first | omega | (simp; omega) | simp) (.int .i64 hx)).far (p := ⟨(w.heap.size + 1), 1, none⟩) (by first | omega | (simp; omega) | simp) (.int .i64 hy)).frozen 0
    have p2f1_z := (((((((p2_2).alloc (.cells #[.int .i64 lx, .int .i64 ly] 30)).alloc (.cells #[.int .i64 hx, .int .i64 hy] 30)).set_ 0 (.int .i64 lx)).set_ 1 (.int .i64 ly)).far (p := ⟨(w.heap.size + 1), 0, none⟩) (by first | omega | (simp; omega) | simp) (.int .i64 hx)).far (p := ⟨(w.heap.size + 1), 1, none⟩) (by first | omega | (simp; omega) | simp) (.int .i64 hy)).frozen 1
    obtain ⟨p3a_z, p3b_z⟩ := (((((((p3_2).alloc (.cells #[.int .i64 lx, .int .i64 ly] 30)).alloc (.cells #[.int .i64 hx, .int .i64 hy] 30)).far (p := ⟨(w.heap.size), 0, none⟩) (by first | omega | (simp; omega) | simp) (.int .i64 lx)).far (p := ⟨(w.heap.size), 1, none⟩) (by first | omega | (simp; omega) | simp) (.int .i64 ly)).set_ 0 (.int .i64 hx)).set_ 1 (.int .i64 hy)).two
    have p3f0_z := (((((((p3_2).alloc (.cells #[.int .i64 lx, .int .i64 ly] 30)).alloc (.cells #[.int .i64 hx, .int .i64 hy] 30)).far (p := ⟨(w.heap.size), 0, none⟩) (by first | omega | (simp; omega) | simp) (.int .i64 lx)).far (p := ⟨(w.heap.size), 1, none⟩) (by first | omega | (simp; omega) | simp) (.int .i64 ly)).set_ 0 (.int .i64 hx)).set_ 1 (.int .i64 hy)).frozen 0
    have p3f1_z := (((((((p3_2).alloc (.cells #[.int .i64 lx, .int .i64 ly] 30)).alloc (.cells #[.int .i64 hx, .int .i64 hy] 30)).far (p := ⟨(w.heap.size), 0, none⟩) (by first | omega | (simp; omega) | simp) (.int .i64 lx)).far (p := ⟨(w.heap.size), 1, none⟩) (by first | omega | (simp; omega) | simp) (.int .i64 ly)).set_ 0 (.int .i64 hx)).set_ 1 (.int .i64 hy)).frozen 1
    refine bodyPost_ret (v := .tuple #[.agg #[.int .i64 lx, .int .i64 ly], .agg #[.int .i64 hx, .int .i64 hy], .int .i64 0]) (by simp [results, Try.results15, go_sem, p2a_z, p2b_z, p3a_z, p3b_z]) rfl ?_
    exact ⟨rfl, ((((((((B_2).alloc (by first | omega | (simp; omega) | simp) (.cells #[.int .i64 lx, .int .i64 ly] 30)).alloc (by first | omega | (simp; omega) | simp) (.cells #[.int .i64 hx, .int .i64 hy] 30)).setCell (p := ⟨(w.heap.size), 0, none⟩) (by first | omega | (simp; omega) | simp) (.int .i64 lx)).setCell (p := ⟨(w.heap.size), 1, none⟩) (by first | omega | (simp; omega) | simp) (.int .i64 ly)).setCell (p := ⟨(w.heap.size + 1), 0, none⟩) (by first | omega | (simp; omega) | simp) (.int .i64 hx)).setCell (p := ⟨(w.heap.size + 1), 1, none⟩) (by first | omega | (simp; omega) | simp) (.int .i64 hy))).drew⟩
set_option maxHeartbeats 1000000 in
theorem implStrokeBox_any (A : Option Addr) (c : Nat) (ps : List (Int × Int)) (w : World) (h : RP w A ps) (hn : ps.length ≤ 1048576) :
    Calls Try.prog 16 #[.slice A ps.length c] w (RetV w (boxV (boxR ps))) := by
  unfold boxR boxV
  cases hv : vldS ps
  ·
    go_enter Try.func16, Try.ntmps16
    go_wp2_with fail
    refine (implValidStroke_any _ _ ps _ ((h.alloc _).alloc _) hn).mono ?_
    rintro e w1 ⟨rfl, hb1⟩
    have p2_1 := ((Bx.new_ w (w.heap.size) 30 #[.int .i64 0, .int .i64 0] (by simp)).alloc (.cells #[.int .i64 0, .int .i64 0] 30)).below hb1
    obtain ⟨p2a_1, p2b_1⟩ := (p2_1).two
    have p2f0_1 := (p2_1).frozen 0
    have p2f1_1 := (p2_1).frozen 1
    have p3_1 := (Bx.new_ (w.alloc (.cells #[.int .i64 0, .int .i64 0] 30)) (w.heap.size + 1) 30 #[.int .i64 0, .int .i64 0] (by simp)).below hb1
    obtain ⟨p3a_1, p3b_1⟩ := (p3_1).two
    have p3f0_1 := (p3_1).frozen 0
    have p3f1_1 := (p3_1).frozen 1
    have hr_1 := ((h.alloc _).alloc _).below hb1
    have z_1 : ((w.alloc (.cells #[.int .i64 0, .int .i64 0] 30)).alloc (.cells #[.int .i64 0, .int .i64 0] 30)).heap.size ≤ w1.heap.size := hb1.size
    simp only [World.size_alloc] at z_1
    have B_1 := (((Below.refl w.heap.size w).alloc (by first | omega | (simp; omega) | simp) (.cells #[.int .i64 0, .int .i64 0] 30)).alloc (by first | omega | (simp; omega) | simp) (.cells #[.int .i64 0, .int .i64 0] 30)).trans (hb1.mono (by first | omega | (simp; omega) | simp))
    rw [hv]
    go_wp2_with fail
    obtain ⟨p2a_z, p2b_z⟩ := (((((p2_1).set_ 0 (.int .i64 0)).set_ 1 (.int .i64 0)).far (p := ⟨(w.heap.size + 1), 0, none⟩) (by first | omega | (simp; omega) | simp) (.int .i64 0)).far (p := ⟨(w.heap.size + 1), 1, none⟩) (by first | omega | (simp; omega) | simp) (.int .i64 0)).two
    have p2f0_z := (((((p2_1).set_ 0 (.int .i64 0)).set_ 1 (.int .i64 0)).far (p := ⟨(w.heap.size + 1), 0, none⟩) (by first | omega | (simp; omega) | simp) (.int .i64 0)).far (p := ⟨(w.heap.size + 1), 1, none⟩) (by first | omega | (simp; omega) | simp) (.int .i64 0)).frozen 0
    have p2f1_z := (((((p2_1).set_ 0 (.int .i64 0)).set_ 1 (.int .i64 0)).far (p := ⟨(w.heap.size + 1), 0, none⟩) (by first | omega | (simp; omega) | simp) (.int .i64 0)).far (p := ⟨(w.heap.size + 1), 1, none⟩) (by first | omega | (simp; omega) | simp) (.int .i64 0)).frozen 1
    obtain ⟨p3a_z, p3b_z⟩ := (((((p3_1).far (p := ⟨(w.heap.size), 0, none⟩) (by first | omega | (simp; omega) | simp) (.int .i64 0)).far (p := ⟨(w.heap.size), 1, none⟩) (by first | omega | (simp; omega) | simp) (.int .i64 0)).set_ 0 (.int .i64 0)).set_ 1 (.int .i64 0)).two
    have p3f0_z := (((((p3_1).far (p := ⟨(w.heap.size), 0, none⟩) (by first | omega | (simp; omega) | simp) (.int .i64 0)).far (p := ⟨(w.heap.size), 1, none⟩) (by first | omega | (simp; omega) | simp) (.int .i64 0)).set_ 0 (.int .i64 0)).set_ 1 (.int .i64 0)).frozen 0
    have p3f1_z := (((((p3_1).far (p := ⟨(w.heap.size), 0, none⟩) (by first | omega | (simp; omega) | simp) (.int .i64 0)).far (p := ⟨(w.heap.size), 1, none⟩) (by first | omega | (simp; omega) | simp) (.int .i64 0)).set_ 0 (.int .i64 0)).set_ 1 (.int .i64 0)).frozen 1
    refine bodyPost_ret (v := .tuple #[.agg #[.int .i64 0, .int .i64 0], .agg #[.int .i64 0, .int .i64 0], .int .i64 1]) (by simp [results, Try.results16, go_sem, p2a_z, p2b_z, p3a_z, p3b_z]) rfl ?_
    exact ⟨rfl, (((((B_1).setCell (p := ⟨(w.heap.size), 0, none⟩) (by first | omega | (simp; omega) | simp) (.int .i64 0)).setCell (p := ⟨(w.heap.size), 1, none⟩) (by first | omega | (simp; omega) | simp) (.int .i64 0)).setCell (p := ⟨(w.heap.size + 1), 0, none⟩) (by first | omega | (simp; omega) | simp) (.int .i64 0)).setCell (p := ⟨(w.heap.size + 1), 1, none⟩) (by first | omega | (simp; omega) | simp) (.int .i64 0))⟩
  · obtain ⟨hin, hpos, hlen⟩ := boxS_in hv
    have hcall := fun W (hW : RP W A ps) => boxOf_any A c ps W hW (by omega) hpos
    obtain ⟨B, hB0⟩ : ∃ B, B = boxS ps := ⟨_, rfl⟩
    rw [← hB0] at hcall
    rw [if_pos rfl, ← hB0]
    obtain ⟨⟨lx, ly⟩, ⟨hx, hy⟩⟩ := B
    clear hB0 hin
    have HC := hide hcall
    clear hcall
    go_enter Try.func16, Try.ntmps16
    go_wp2_with fail
    refine (implValidStroke_any _ _ ps _ ((h.alloc _).alloc _) hn).mono ?_
    rintro e w1 ⟨rfl, hb1⟩
    have p2_1 := ((Bx.new_ w (w.heap.size) 30 #[.int .i64 0, .int .i64 0] (by simp)).alloc (.cells #[.int .i64 0, .int .i64 0] 30)).below hb1
    obtain ⟨p2a_1, p2b_1⟩ := (p2_1).two
    have p2f0_1 := (p2_1).frozen 0
    have p2f1_1 := (p2_1).frozen 1
    have p3_1 := (Bx.new_ (w.alloc (.cells #[.int .i64 0, .int .i64 0] 30)) (w.heap.size + 1) 30 #[.int .i64 0, .int .i64 0] (by simp)).below hb1
    obtain ⟨p3a_1, p3b_1⟩ := (p3_1).two
    have p3f0_1 := (p3_1).frozen 0
    have p3f1_1 := (p3_1).frozen 1
    have hr_1 := ((h.alloc _).alloc _).below hb1
    have z_1 : ((w.alloc (.cells #[.int .i64 0, .int .i64 0] 30)).alloc (.cells #[.int .i64 0, .int .i64 0] 30)).heap.size ≤ w1.heap.size := hb1.size
    simp only [World.size_alloc] at z_1
    have B_1 := (((Below.refl w.heap.size w).alloc (by first | omega | (simp; omega) | simp) (.cells #[.int .i64 0, .int .i64 0] 30)).alloc (by first | omega | (simp; omega) | simp) (.cells #[.int .i64 0, .int .i64 0] 30)).trans (hb1.mono (by first | omega | (simp; omega) | simp))
    rw [hv]
    go_wp2_with fail
    refine (HC.out _ (hr_1)).mono ?_
    rintro e w2 ⟨rfl, hb2⟩
    have p2_2 := (p2_1).below hb2
    obtain ⟨p2a_2, p2b_2⟩ := (p2_2).two
    have p2f0_2 := (p2_2).frozen 0
    have p2f1_2 := (p2_2).frozen 1
    have p3_2 := (p3_1).below hb2
    obtain ⟨p3a_2, p3b_2⟩ := (p3_2).two
    have p3f0_2 := (p3_2).frozen 0
    have p3f1_2 := (p3_2).frozen 1
    have hr_2 := (hr_1).below hb2
    have z_2 : w1.heap.size ≤ w2.heap.size := hb2.size
    have B_2 := (B_1).trans (hb2.mono (by first | omega | (simp; omega) | simp))
    obtain ⟨p2a_x1, p2b_x1⟩ := (((p2_2).alloc (.cells #[.int .i64 lx, .int .i64 ly] 30)).alloc (.cells #[.int .i64 hx, .int .i64 hy] 30)).two
    have p2f0_x1 := (((p2_2).alloc (.cells #[.int .i64 lx, .int .i64 ly] 30)).alloc (.cells #[.int .i64 hx, .int .i64 hy] 30)).frozen 0
    have p2f1_x1 := (((p2_2).alloc (.cells #[.int .i64 lx, .int .i64 ly] 30)).alloc (.cells #[.int .i64 hx, .int .i64 hy] 30)).frozen 1
    obtain ⟨p3a_x1, p3b_x1⟩ := (((p3_2).alloc (.cells #[.int .i64 lx, .int .i64 ly] 30)).alloc (.cells #[.int .i64 hx, .int .i64 hy] 30)).two
    have p3f0_x1 := (((p3_2).alloc (.cells #[.int .i64 lx, .int .i64 ly] 30)).alloc (.cells #[.int .i64 hx, .int .i64 hy] 30)).frozen 0
    have p3f1_x1 := (((p3_2).alloc (.cells #[.int .i64 lx, .int .i64 ly] 30)).alloc (.cells #[.int .i64 hx, .int .i64 hy] 30)).frozen 1
    obtain ⟨p4a_x1, p4b_x1⟩ := ((Bx.new_ w2 (w2.heap.size) 30 #[.int .i64 lx, .int .i64 ly] (by simp)).alloc (.cells #[.int .i64 hx, .int .i64 hy] 30)).two
    obtain ⟨p5a_x1, p5b_x1⟩ := (Bx.new_ (w2.alloc (.cells #[.int .i64 lx, .int .i64 ly] 30)) (w2.heap.size + 1) 30 #[.int .i64 hx, .int .i64 hy] (by simp)).two
    have q3 := (((p3_2).alloc (.cells #[.int .i64 lx, .int .i64 ly] 30)).alloc (.cells #[.int .i64 hx, .int .i64 hy] 30)).far (p := ⟨w.heap.size, 0, none⟩) (by simp) (.int .i64 lx)
    have q3 := q3.far (p := ⟨w.heap.size, 1, none⟩) (by simp) (.int .i64 ly)
    obtain ⟨q3a, q3b⟩ := q3.two
    have q3f := q3.frozen 0
    have q3g := q3.frozen 1
    go_wp2_with fail
    go_region
    all_goals go_wp2_with fail
    obtain ⟨p2a_z, p2b_z⟩ := (((((((p2_2).alloc (.cells #[.int .i64 lx, .int .i64 ly] 30)).alloc (.cells #[.int .i64 hx, .int .i64 hy] 30)).set_ 0 (.int .i64 lx)).set_ 1 (.int .i64 ly)).far (p := ⟨(w.heap.size + 1), 0, none⟩) (by first | omega | (simp; omega) | simp) (.int .i64 hx)).far (p := ⟨(w.heap.size + 1), 1, none⟩) (by first | omega | (simp; omega) | simp) (.int .i64 hy)).two
    have p2f0_z := (((((((p2_2).alloc (.cells #[.int .i64 lx, .int .i64 ly] 30)).alloc (.cells #[.int .i64 hx, .int .i64 hy] 30)).set_ 0 (.int .i64 lx)).set_ 1 (.int .i64 ly)).far (p := ⟨(w.heap.size + 1), 0, none⟩) (by first | omega | (simp; omega) | simp) (.int .i64 hx)).far (p := ⟨(w.heap.size + 1), 1, none⟩) (by first | omega | (simp; omega) | simp) (.int .i64 hy)).frozen 0
    have p2f1_z := (((((((p2_2).alloc (.cells #[.int .i64 lx, .int .i64 ly] 30)).alloc (.cells #[.int .i64 hx, .int .i64 hy] 30)).set_ 0 (.int .i64 lx)).set_ 1 (.int .i64 ly)).far (p := ⟨(w.heap.size + 1), 0, none⟩) (by first | omega | (simp; omega) | simp) (.int .i64 hx)).far (p := ⟨(w.heap.size + 1), 1, none⟩) (by first | omega | (simp; omega) | simp) (.int .i64 hy)).frozen 1
    obtain ⟨p3a_z, p3b_z⟩ := (((((((p3_2).alloc (.cells #[.int .i64 lx, .int .i64 ly] 30)).alloc (.cells #[.int .i64 hx, .int .i64 hy] 30)).far (p := ⟨(w.heap.size), 0, none⟩) (by first | omega | (simp; omega) | simp) (.int .i64 lx)).far (p := ⟨(w.heap.size), 1, none⟩) (by first | omega | (simp; omega) | simp) (.int .i64 ly)).set_ 0 (.int .i64 hx)).set_ 1 (.int .i64 hy)).two
    have p3f0_z := (((((((p3_2).alloc (.cells #[.int .i64 lx, .int .i64 ly] 30)).alloc (.cells #[.int .i64 hx, .int .i64 hy] 30)).far (p := ⟨(w.heap.size), 0, none⟩) (by first | omega | (simp; omega) | simp) (.int .i64 lx)).far (p := ⟨(w.heap.size), 1, none⟩) (by first | omega | (simp; omega) | simp) (.int .i64 ly)).set_ 0 (.int .i64 hx)).set_ 1 (.int .i64 hy)).frozen 0
    have p3f1_z := (((((((p3_2).alloc (.cells #[.int .i64 lx, .int .i64 ly] 30)).alloc (.cells #[.int .i64 hx, .int .i64 hy] 30)).far (p := ⟨(w.heap.size), 0, none⟩) (by first | omega | (simp; omega) | simp) (.int .i64 lx)).far (p := ⟨(w.heap.size), 1, none⟩) (by first | omega | (simp; omega) | simp) (.int .i64 ly)).set_ 0 (.int .i64 hx)).set_ 1 (.int .i64 hy)).frozen 1
    refine bodyPost_ret (v := .tuple #[.agg #[.int .i64 lx, .int .i64 ly], .agg #[.int .i64 hx, .int .i64 hy], .int .i64 0]) (by simp [results, Try.results16, go_sem, p2a_z, p2b_z, p3a_z, p3b_z]) rfl ?_
    exact ⟨rfl, ((((((((B_2).alloc (by first | omega | (simp; omega) | simp) (.cells #[.int .i64 lx, .int .i64 ly] 30)).alloc (by first | omega | (simp; omega) | simp) (.cells #[.int .i64 hx, .int .i64 hy] 30)).setCell (p := ⟨(w.heap.size), 0, none⟩) (by first | omega | (simp; omega) | simp) (.int .i64 lx)).setCell (p := ⟨(w.heap.size), 1, none⟩) (by first | omega | (simp; omega) | simp) (.int .i64 ly)).setCell (p := ⟨(w.heap.size + 1), 0, none⟩) (by first | omega | (simp; omega) | simp) (.int .i64 hx)).setCell (p := ⟨(w.heap.size + 1), 1, none⟩) (by first | omega | (simp; omega) | simp) (.int .i64 hy))).drew⟩
end Go.Proofs.Ytbleipaekdhdmaa