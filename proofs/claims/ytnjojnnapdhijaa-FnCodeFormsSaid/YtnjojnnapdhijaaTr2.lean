/-
  Contracts: walkers of panels, of the reference and of the program. Conditions: a valid panel's sides, walkers of the panel.
-/
import Derived.Test.YtnjojnnapdhijaaTr1
namespace Go.Proofs.Ytnjojnnapdhijaa
open Go.RowKit
set_option linter.unusedVariables false

theorem Bx.four {w : World} {b : Nat} {t : TypeId} {u v x y : Value} (h : Bx w b t #[u, v, x, y]) : w.cell? ⟨b, 0, none⟩ = some u ∧ w.cell? ⟨b, 1, none⟩ = some v ∧ w.cell? ⟨b, 2, none⟩ = some x ∧ w.cell? ⟨b, 3, none⟩ = some y := ⟨(h.cell 0).trans rfl, (h.cell 1).trans rfl, (h.cell 2).trans rfl, (h.cell 3).trans rfl⟩
/-- where a walker and its next point lie -/
theorem OkW.bounds {wd ht : Int} {a : Wk} (hs : Sz wd ht) (h : OkW wd ht a) : (0 ≤ a.x ∧ a.x ≤ 16) ∧ (0 ≤ a.y ∧ a.y ≤ 16) ∧ (0 ≤ a.nx ∧ a.nx ≤ 16) ∧ (0 ≤ a.ny ∧ a.ny ≤ 16) ∧ (a.dx = 1 ∨ a.dx = -1) ∧ (a.dy = 1 ∨ a.dy = -1) := by
  obtain ⟨h1, h2, h3, h4⟩ := h
  obtain ⟨s1, s2, s3, s4⟩ := hs
  unfold OnP at h3 h4
  refine ⟨by omega, by omega, by omega, by omega, h1, h2⟩


theorem l03Next_any (wd ht : Int) (a : Wk) (w : World) (hs : Sz wd ht) (ha : OkW wd ht a) :
    Calls Try.prog 166 #[.agg #[.int .i64 a.x, .int .i64 a.y, .int .i64 a.dx, .int .i64 a.dy]] w (RetV w (.agg #[.int .i64 a.nx, .int .i64 a.ny])) := by
  obtain ⟨g1, g2, g3, g4, g5, g6⟩ := ha.bounds hs
  clear ha hs
  obtain ⟨x, y, dx, dy⟩ := a
  simp only [Wk.nx, Wk.ny] at *
  obtain ⟨wka_x1, wkb_x1, wkc_x1, wkd_x1⟩ := ((Bx.new_ w (w.heap.size) 112 #[.int .i64 x, .int .i64 y, .int .i64 dx, .int .i64 dy] (by simp)).alloc (.cells #[.int .i64 0, .int .i64 0] 110)).four
  obtain ⟨ra_x1, rb_x1⟩ := (Bx.new_ (w.alloc (.cells #[.int .i64 x, .int .i64 y, .int .i64 dx, .int .i64 dy] 112)) (w.heap.size + 1) 110 #[.int .i64 0, .int .i64 0] (by simp)).two
  have rf0_x1 := (Bx.new_ (w.alloc (.cells #[.int .i64 x, .int .i64 y, .int .i64 dx, .int .i64 dy] 112)) (w.heap.size + 1) 110 #[.int .i64 0, .int .i64 0] (by simp)).frozen 0
  have rf1_x1 := (Bx.new_ (w.alloc (.cells #[.int .i64 x, .int .i64 y, .int .i64 dx, .int .i64 dy] 112)) (w.heap.size + 1) 110 #[.int .i64 0, .int .i64 0] (by simp)).frozen 1
  have hx : 0 ≤ x + dx ∧ x + dx ≤ 16 := g3
  have hy : 0 ≤ y + dy ∧ y + dy ≤ 16 := g4
  go_enter Try.func166, Try.ntmps166
  go_wp2_with fail
  refine bodyPost_ret (v := .agg #[.int .i64 (x + dx), .int .i64 (y + dy)]) (by simp [results, Try.results166, go_sem]) rfl ?_
  exact ⟨rfl, ((Below.refl _ _).alloc (Nat.le_refl _) _).alloc (by simp) _⟩

theorem next_any (wd ht : Int) (a : Wk) (w : World) (hs : Sz wd ht) (ha : OkW wd ht a) :
    Calls Try.prog 115 #[.agg #[.int .i64 a.x, .int .i64 a.y, .int .i64 a.dx, .int .i64 a.dy]] w (RetV w (.agg #[.int .i64 a.nx, .int .i64 a.ny])) := by
  obtain ⟨g1, g2, g3, g4, g5, g6⟩ := ha.bounds hs
  clear ha hs
  obtain ⟨x, y, dx, dy⟩ := a
  simp only [Wk.nx, Wk.ny] at *
  obtain ⟨wka_x1, wkb_x1, wkc_x1, wkd_x1⟩ := ((Bx.new_ w (w.heap.size) 112 #[.int .i64 x, .int .i64 y, .int .i64 dx, .int .i64 dy] (by simp)).alloc (.cells #[.int .i64 0, .int .i64 0] 110)).four
  obtain ⟨ra_x1, rb_x1⟩ := (Bx.new_ (w.alloc (.cells #[.int .i64 x, .int .i64 y, .int .i64 dx, .int .i64 dy] 112)) (w.heap.size + 1) 110 #[.int .i64 0, .int .i64 0] (by simp)).two
  have rf0_x1 := (Bx.new_ (w.alloc (.cells #[.int .i64 x, .int .i64 y, .int .i64 dx, .int .i64 dy] 112)) (w.heap.size + 1) 110 #[.int .i64 0, .int .i64 0] (by simp)).frozen 0
  have rf1_x1 := (Bx.new_ (w.alloc (.cells #[.int .i64 x, .int .i64 y, .int .i64 dx, .int .i64 dy] 112)) (w.heap.size + 1) 110 #[.int .i64 0, .int .i64 0] (by simp)).frozen 1
  have hx : 0 ≤ x + dx ∧ x + dx ≤ 16 := g3
  have hy : 0 ≤ y + dy ∧ y + dy ≤ 16 := g4
  go_enter Try.func115, Try.ntmps115
  go_wp2_with fail
  refine bodyPost_ret (v := .agg #[.int .i64 (x + dx), .int .i64 (y + dy)]) (by simp [results, Try.results115, go_sem]) rfl ?_
  exact ⟨rfl, ((Below.refl _ _).alloc (Nat.le_refl _) _).alloc (by simp) _⟩

theorem seg_a {ht : Int} {a : Wk} {wd : Int} (h : OkW wd ht a) : segW ht a = (if a.dx = 1 then a.x else a.nx) * 2 * ht + (if a.dy = 1 then a.y else a.ny) := by
  unfold segW loX loY
  rw [Int.mul_assoc]
theorem segments_any (wd ht : Int) (A : Option Addr) (c : Nat) (xs : List Int) (w : World) (hs : Sz wd ht) :
    Calls Try.prog 111 #[.agg #[.int .i64 wd, .int .i64 ht, .slice A xs.length c]] w (RetV w (.int .i64 (nSeg wd ht : Int))) := by
  have hn := nSeg_int hs
  have HN := hide hn.1
  obtain ⟨s1, s2, s3, s4⟩ := hs
  have hb : 0 ≤ 4 * wd * ht ∧ 4 * wd * ht ≤ 256 := by omega
  clear hn
  obtain ⟨pa_x1, pb_x1, pc_x1⟩ := (Bx.new_ w (w.heap.size) 36 #[.int .i64 wd, .int .i64 ht, .slice A xs.length c] (by simp)).three
  go_enter Try.func111, Try.ntmps111
  go_wp2_with fail
  go_ret
  rw [HN.out]
  exact ⟨rfl, ((Below.refl w.heap.size w).alloc (by first | omega | (simp; omega) | simp) (.cells #[.int .i64 wd, .int .i64 ht, .slice A xs.length c] 36))⟩
/-- the four ways of a walker -/
theorem OkW.four {wd ht : Int} {a : Wk} (h : OkW wd ht a) {P : Prop} (h1 : a.dx = 1 → a.dy = 1 → P) (h2 : a.dx = 1 → a.dy = -1 → P) (h3 : a.dx = -1 → a.dy = 1 → P) (h4 : a.dx = -1 → a.dy = -1 → P) : P := by
  obtain ⟨e1, e2, _, _⟩ := h
  rcases e1 with e1 | e1 <;> rcases e2 with e2 | e2
  · exact h1 e1 e2
  · exact h2 e1 e2
  · exact h3 e1 e2
  · exact h4 e1 e2
theorem mul_small2 {a b : Int} (a0 : 0 ≤ a) (a1 : a ≤ 16) (b0 : 1 ≤ b) (b1 : b ≤ 8) : 0 ≤ a * 2 * b ∧ a * 2 * b ≤ 256 := by
  rcases eight b0 b1 with rfl | rfl | rfl | rfl | rfl | rfl | rfl | rfl <;> omega
set_option maxHeartbeats 2000000 in
theorem segment_any (wd ht : Int) (A : Option Addr) (c : Nat) (xs : List Int) (a : Wk) (w : World) (hs : Sz wd ht) (ha : OkW wd ht a) :
    Calls Try.prog 113 #[.agg #[.int .i64 wd, .int .i64 ht, .slice A xs.length c], .agg #[.int .i64 a.x, .int .i64 a.y, .int .i64 a.dx, .int .i64 a.dy]] w (RetV w (.int .i64 (segW ht a))) := by
  rw [seg_a ha]
  have hnx := fun W => next_any wd ht a W hs ha
  obtain ⟨g1, g2, g3, g4, g5, g6⟩ := ha.bounds hs
  obtain ⟨s1, s2, s3, s4⟩ := hs
  have k1 : a.nx = a.x + a.dx := rfl
  have k2 : a.ny = a.y + a.dy := rfl
  have HX := hide hnx
  clear hnx

  refine ha.four (fun e1 e2 => ?_) (fun e1 e2 => ?_) (fun e1 e2 => ?_) (fun e1 e2 => ?_)
  ·
    have r1 : (if a.dx = 1 then a.x else a.nx) = a.x := by rw [e1]; rfl
    have r2 : (if a.dy = 1 then a.y else a.ny) = a.y := by rw [e2]; rfl
    rw [r1, r2]
    have q1 : a.x < a.nx := by omega
    have q2 : a.y < a.ny := by omega
    clear r1 r2 e1 e2 ha g5 g6 k1 k2
    obtain ⟨X, hX⟩ : ∃ X, X = a.nx := ⟨_, rfl⟩
    obtain ⟨Y, hY⟩ : ∃ Y, Y = a.ny := ⟨_, rfl⟩
    rw [← hX, ← hY] at HX
    skip
    skip
    rw [← hX] at q1 g3
    rw [← hY] at q2 g4
    clear hX hY
    obtain ⟨m1, m2⟩ := mul_small2 (a := a.x) (b := ht) (by omega) (by omega) s3 s4
    go_enter Try.func113, Try.ntmps113
    go_wp2_with fail
    refine ((HX.out _)).mono ?_
    rintro e w1 ⟨rfl, hb1⟩
    have p_1 := ((Bx.new_ w (w.heap.size) 36 #[.int .i64 wd, .int .i64 ht, .slice A xs.length c] (by simp)).alloc (.cells #[.int .i64 a.x, .int .i64 a.y, .int .i64 a.dx, .int .i64 a.dy] 112)).below hb1
    obtain ⟨pa_1, pb_1, pc_1⟩ := (p_1).three
    have wk_1 := (Bx.new_ (w.alloc (.cells #[.int .i64 wd, .int .i64 ht, .slice A xs.length c] 36)) (w.heap.size + 1) 112 #[.int .i64 a.x, .int .i64 a.y, .int .i64 a.dx, .int .i64 a.dy] (by simp)).below hb1
    obtain ⟨wka_1, wkb_1, wkc_1, wkd_1⟩ := (wk_1).four
    have z_1 : ((w.alloc (.cells #[.int .i64 wd, .int .i64 ht, .slice A xs.length c] 36)).alloc (.cells #[.int .i64 a.x, .int .i64 a.y, .int .i64 a.dx, .int .i64 a.dy] 112)).heap.size ≤ w1.heap.size := hb1.size
    simp only [World.size_alloc] at z_1
    have B_1 := (((Below.refl w.heap.size w).alloc (by first | omega | (simp; omega) | simp) (.cells #[.int .i64 wd, .int .i64 ht, .slice A xs.length c] 36)).alloc (by first | omega | (simp; omega) | simp) (.cells #[.int .i64 a.x, .int .i64 a.y, .int .i64 a.dx, .int .i64 a.dy] 112)).trans (hb1.mono (by first | omega | (simp; omega) | simp))
    obtain ⟨qa_x1, qb_x1⟩ := (Bx.new_ w1 (w1.heap.size) 110 #[.int .i64 X, .int .i64 Y] (by simp)).two
    obtain ⟨pa_x1, pb_x1, pc_x1⟩ := ((p_1).alloc (.cells #[.int .i64 X, .int .i64 Y] 110)).three
    obtain ⟨wka_x1, wkb_x1, wkc_x1, wkd_x1⟩ := ((wk_1).alloc (.cells #[.int .i64 X, .int .i64 Y] 110)).four
    go_wp2_with fail
    go_ret
    exact ⟨rfl, ((B_1).alloc (by first | omega | (simp; omega) | simp) (.cells #[.int .i64 X, .int .i64 Y] 110))⟩
  ·
    have r1 : (if a.dx = 1 then a.x else a.nx) = a.x := by rw [e1]; rfl
    have r2 : (if a.dy = 1 then a.y else a.ny) = a.ny := by rw [e2]; rfl
    rw [r1, r2]
    have q1 : a.x < a.nx := by omega
    have q2 : ¬ a.y < a.ny ∧ a.ny < a.y := by omega
    clear r1 r2 e1 e2 ha g5 g6 k1 k2
    obtain ⟨X, hX⟩ : ∃ X, X = a.nx := ⟨_, rfl⟩
    obtain ⟨Y, hY⟩ : ∃ Y, Y = a.ny := ⟨_, rfl⟩
    rw [← hX, ← hY] at HX
    skip
    rw [← hY]
    rw [← hX] at q1 g3
    rw [← hY] at q2 g4
    clear hX hY
    obtain ⟨m1, m2⟩ := mul_small2 (a := a.x) (b := ht) (by omega) (by omega) s3 s4
    go_enter Try.func113, Try.ntmps113
    go_wp2_with fail
    refine ((HX.out _)).mono ?_
    rintro e w1 ⟨rfl, hb1⟩
    have p_1 := ((Bx.new_ w (w.heap.size) 36 #[.int .i64 wd, .int .i64 ht, .slice A xs.length c] (by simp)).alloc (.cells #[.int .i64 a.x, .int .i64 a.y, .int .i64 a.dx, .int .i64 a.dy] 112)).below hb1
    obtain ⟨pa_1, pb_1, pc_1⟩ := (p_1).three
    have wk_1 := (Bx.new_ (w.alloc (.cells #[.int .i64 wd, .int .i64 ht, .slice A xs.length c] 36)) (w.heap.size + 1) 112 #[.int .i64 a.x, .int .i64 a.y, .int .i64 a.dx, .int .i64 a.dy] (by simp)).below hb1
    obtain ⟨wka_1, wkb_1, wkc_1, wkd_1⟩ := (wk_1).four
    have z_1 : ((w.alloc (.cells #[.int .i64 wd, .int .i64 ht, .slice A xs.length c] 36)).alloc (.cells #[.int .i64 a.x, .int .i64 a.y, .int .i64 a.dx, .int .i64 a.dy] 112)).heap.size ≤ w1.heap.size := hb1.size
    simp only [World.size_alloc] at z_1
    have B_1 := (((Below.refl w.heap.size w).alloc (by first | omega | (simp; omega) | simp) (.cells #[.int .i64 wd, .int .i64 ht, .slice A xs.length c] 36)).alloc (by first | omega | (simp; omega) | simp) (.cells #[.int .i64 a.x, .int .i64 a.y, .int .i64 a.dx, .int .i64 a.dy] 112)).trans (hb1.mono (by first | omega | (simp; omega) | simp))
    obtain ⟨qa_x1, qb_x1⟩ := (Bx.new_ w1 (w1.heap.size) 110 #[.int .i64 X, .int .i64 Y] (by simp)).two
    obtain ⟨pa_x1, pb_x1, pc_x1⟩ := ((p_1).alloc (.cells #[.int .i64 X, .int .i64 Y] 110)).three
    obtain ⟨wka_x1, wkb_x1, wkc_x1, wkd_x1⟩ := ((wk_1).alloc (.cells #[.int .i64 X, .int .i64 Y] 110)).four
    go_wp2_with fail
    go_ret
    exact ⟨rfl, ((B_1).alloc (by first | omega | (simp; omega) | simp) (.cells #[.int .i64 X, .int .i64 Y] 110))⟩
  ·
    have r1 : (if a.dx = 1 then a.x else a.nx) = a.nx := by rw [e1]; rfl
    have r2 : (if a.dy = 1 then a.y else a.ny) = a.y := by rw [e2]; rfl
    rw [r1, r2]
    have q1 : ¬ a.x < a.nx ∧ a.nx < a.x := by omega
    have q2 : a.y < a.ny := by omega
    clear r1 r2 e1 e2 ha g5 g6 k1 k2
    obtain ⟨X, hX⟩ : ∃ X, X = a.nx := ⟨_, rfl⟩
    obtain ⟨Y, hY⟩ : ∃ Y, Y = a.ny := ⟨_, rfl⟩
    rw [← hX, ← hY] at HX
    rw [← hX]
    skip
    rw [← hX] at q1 g3
    rw [← hY] at q2 g4
    clear hX hY
    obtain ⟨m1, m2⟩ := mul_small2 (a := X) (b := ht) (by omega) (by omega) s3 s4
    go_enter Try.func113, Try.ntmps113
    go_wp2_with fail
    refine ((HX.out _)).mono ?_
    rintro e w1 ⟨rfl, hb1⟩
    have p_1 := ((Bx.new_ w (w.heap.size) 36 #[.int .i64 wd, .int .i64 ht, .slice A xs.length c] (by simp)).alloc (.cells #[.int .i64 a.x, .int .i64 a.y, .int .i64 a.dx, .int .i64 a.dy] 112)).below hb1
    obtain ⟨pa_1, pb_1, pc_1⟩ := (p_1).three
    have wk_1 := (Bx.new_ (w.alloc (.cells #[.int .i64 wd, .int .i64 ht, .slice A xs.length c] 36)) (w.heap.size + 1) 112 #[.int .i64 a.x, .int .i64 a.y, .int .i64 a.dx, .int .i64 a.dy] (by simp)).below hb1
    obtain ⟨wka_1, wkb_1, wkc_1, wkd_1⟩ := (wk_1).four
    have z_1 : ((w.alloc (.cells #[.int .i64 wd, .int .i64 ht, .slice A xs.length c] 36)).alloc (.cells #[.int .i64 a.x, .int .i64 a.y, .int .i64 a.dx, .int .i64 a.dy] 112)).heap.size ≤ w1.heap.size := hb1.size
    simp only [World.size_alloc] at z_1
    have B_1 := (((Below.refl w.heap.size w).alloc (by first | omega | (simp; omega) | simp) (.cells #[.int .i64 wd, .int .i64 ht, .slice A xs.length c] 36)).alloc (by first | omega | (simp; omega) | simp) (.cells #[.int .i64 a.x, .int .i64 a.y, .int .i64 a.dx, .int .i64 a.dy] 112)).trans (hb1.mono (by first | omega | (simp; omega) | simp))
    obtain ⟨qa_x1, qb_x1⟩ := (Bx.new_ w1 (w1.heap.size) 110 #[.int .i64 X, .int .i64 Y] (by simp)).two
    obtain ⟨pa_x1, pb_x1, pc_x1⟩ := ((p_1).alloc (.cells #[.int .i64 X, .int .i64 Y] 110)).three
    obtain ⟨wka_x1, wkb_x1, wkc_x1, wkd_x1⟩ := ((wk_1).alloc (.cells #[.int .i64 X, .int .i64 Y] 110)).four
    go_wp2_with fail
    go_ret
    exact ⟨rfl, ((B_1).alloc (by first | omega | (simp; omega) | simp) (.cells #[.int .i64 X, .int .i64 Y] 110))⟩
  ·
    have r1 : (if a.dx = 1 then a.x else a.nx) = a.nx := by rw [e1]; rfl
    have r2 : (if a.dy = 1 then a.y else a.ny) = a.ny := by rw [e2]; rfl
    rw [r1, r2]
    have q1 : ¬ a.x < a.nx ∧ a.nx < a.x := by omega
    have q2 : ¬ a.y < a.ny ∧ a.ny < a.y := by omega
    clear r1 r2 e1 e2 ha g5 g6 k1 k2
    obtain ⟨X, hX⟩ : ∃ X, X = a.nx := ⟨_, rfl⟩
    obtain ⟨Y, hY⟩ : ∃ Y, Y = a.ny := ⟨_, rfl⟩
    rw [← hX, ← hY] at HX
    rw [← hX]
    rw [← hY]
    rw [← hX] at q1 g3
    rw [← hY] at q2 g4
    clear hX hY
    obtain ⟨m1, m2⟩ := mul_small2 (a := X) (b := ht) (by omega) (by omega) s3 s4
    go_enter Try.func113, Try.ntmps113
    go_wp2_with fail
    refine ((HX.out _)).mono ?_
    rintro e w1 ⟨rfl, hb1⟩
    have p_1 := ((Bx.new_ w (w.heap.size) 36 #[.int .i64 wd, .int .i64 ht, .slice A xs.length c] (by simp)).alloc (.cells #[.int .i64 a.x, .int .i64 a.y, .int .i64 a.dx, .int .i64 a.dy] 112)).below hb1
    obtain ⟨pa_1, pb_1, pc_1⟩ := (p_1).three
    have wk_1 := (Bx.new_ (w.alloc (.cells #[.int .i64 wd, .int .i64 ht, .slice A xs.length c] 36)) (w.heap.size + 1) 112 #[.int .i64 a.x, .int .i64 a.y, .int .i64 a.dx, .int .i64 a.dy] (by simp)).below hb1
    obtain ⟨wka_1, wkb_1, wkc_1, wkd_1⟩ := (wk_1).four
    have z_1 : ((w.alloc (.cells #[.int .i64 wd, .int .i64 ht, .slice A xs.length c] 36)).alloc (.cells #[.int .i64 a.x, .int .i64 a.y, .int .i64 a.dx, .int .i64 a.dy] 112)).heap.size ≤ w1.heap.size := hb1.size
    simp only [World.size_alloc] at z_1
    have B_1 := (((Below.refl w.heap.size w).alloc (by first | omega | (simp; omega) | simp) (.cells #[.int .i64 wd, .int .i64 ht, .slice A xs.length c] 36)).alloc (by first | omega | (simp; omega) | simp) (.cells #[.int .i64 a.x, .int .i64 a.y, .int .i64 a.dx, .int .i64 a.dy] 112)).trans (hb1.mono (by first | omega | (simp; omega) | simp))
    obtain ⟨qa_x1, qb_x1⟩ := (Bx.new_ w1 (w1.heap.size) 110 #[.int .i64 X, .int .i64 Y] (by simp)).two
    obtain ⟨pa_x1, pb_x1, pc_x1⟩ := ((p_1).alloc (.cells #[.int .i64 X, .int .i64 Y] 110)).three
    obtain ⟨wka_x1, wkb_x1, wkc_x1, wkd_x1⟩ := ((wk_1).alloc (.cells #[.int .i64 X, .int .i64 Y] 110)).four
    go_wp2_with fail
    go_ret
    exact ⟨rfl, ((B_1).alloc (by first | omega | (simp; omega) | simp) (.cells #[.int .i64 X, .int .i64 Y] 110))⟩
end Go.Proofs.Ytnjojnnapdhijaa
