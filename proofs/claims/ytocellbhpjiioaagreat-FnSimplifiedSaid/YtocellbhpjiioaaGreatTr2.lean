/-
  Contracts: walkers of panels, of the reference and of the program. Conditions: a valid panel's sides, walkers of the panel.
-/
import Derived.Test.YtocellbhpjiioaaGreatTr1
namespace Go.Proofs.YtocellbhpjiioaaGreat
open Go.RowKit
set_option linter.unusedVariables false

theorem Bx.four {w : World} {b : Nat} {t : TypeId} {u v x y : Value} (h : Bx w b t #[u, v, x, y]) : w.cell? ⟨b, 0, none⟩ = some u ∧ w.cell? ⟨b, 1, none⟩ = some v ∧ w.cell? ⟨b, 2, none⟩ = some x ∧ w.cell? ⟨b, 3, none⟩ = some y := ⟨(h.cell 0).trans rfl, (h.cell 1).trans rfl, (h.cell 2).trans rfl, (h.cell 3).trans rfl⟩
/-- where a walker and its next point lie -/
theorem OkW.bounds {wd ht : Int} {a : Wk} (hs : Sz wd ht) (h : OkW wd ht a) : (0 ≤ a.x ∧ a.x ≤ 16) ∧ (0 ≤ a.y ∧ a.y ≤ 16) ∧ (0 ≤ a.nx ∧ a.nx ≤ 16) ∧ (0 ≤ a.ny ∧ a.ny ≤ 16) ∧ (a.dx = 1 ∨ a.dx = -1) ∧ (a.dy = 1 ∨ a.dy = -1) := by
  obtain ⟨h1, h2, h3, h4⟩ := h
  obtain ⟨s1, s2, s3, s4⟩ := hs
  unfold OnP at h3 h4
  refine ⟨by omega, by omega, by omega, by omega, h1, h2⟩


theorem l03Next_any (wd ht : Int) (a : Wk) (w : World) (hs : Sz wd ht) (ha : OkW wd ht a) :
    Calls Tryz.prog 96 #[.agg #[.int .i64 a.x, .int .i64 a.y, .int .i64 a.dx, .int .i64 a.dy]] w (RetV w (.agg #[.int .i64 a.nx, .int .i64 a.ny])) := by
  obtain ⟨g1, g2, g3, g4, g5, g6⟩ := ha.bounds hs
  clear ha hs
  obtain ⟨x, y, dx, dy⟩ := a
  simp only [Wk.nx, Wk.ny] at *
  obtain ⟨wka_x1, wkb_x1, wkc_x1, wkd_x1⟩ := ((Bx.new_ w (w.heap.size) 120 #[.int .i64 x, .int .i64 y, .int .i64 dx, .int .i64 dy] (by simp)).alloc (.cells #[.int .i64 0, .int .i64 0] 118)).four
  obtain ⟨ra_x1, rb_x1⟩ := (Bx.new_ (w.alloc (.cells #[.int .i64 x, .int .i64 y, .int .i64 dx, .int .i64 dy] 120)) (w.heap.size + 1) 118 #[.int .i64 0, .int .i64 0] (by simp)).two
  have rf0_x1 := (Bx.new_ (w.alloc (.cells #[.int .i64 x, .int .i64 y, .int .i64 dx, .int .i64 dy] 120)) (w.heap.size + 1) 118 #[.int .i64 0, .int .i64 0] (by simp)).frozen 0
  have rf1_x1 := (Bx.new_ (w.alloc (.cells #[.int .i64 x, .int .i64 y, .int .i64 dx, .int .i64 dy] 120)) (w.heap.size + 1) 118 #[.int .i64 0, .int .i64 0] (by simp)).frozen 1
  have hx : 0 ≤ x + dx ∧ x + dx ≤ 16 := g3
  have hy : 0 ≤ y + dy ∧ y + dy ≤ 16 := g4
  go_enter Tryz.func96, Tryz.ntmps96
  go_wp2_with fail
  refine bodyPost_ret (v := .agg #[.int .i64 (x + dx), .int .i64 (y + dy)]) (by simp [results, Tryz.results96, go_sem]) rfl ?_
  exact ⟨rfl, ((Below.refl _ _).alloc (Nat.le_refl _) _).alloc (by simp) _⟩

theorem seg_a {ht : Int} {a : Wk} {wd : Int} (h : OkW wd ht a) : segW ht a = (if a.dx = 1 then a.x else a.nx) * 2 * ht + (if a.dy = 1 then a.y else a.ny) := by
  unfold segW loX loY
  rw [Int.mul_assoc]
/-- the four ways of a walker -/
theorem OkW.four {wd ht : Int} {a : Wk} (h : OkW wd ht a) {P : Prop} (h1 : a.dx = 1 → a.dy = 1 → P) (h2 : a.dx = 1 → a.dy = -1 → P) (h3 : a.dx = -1 → a.dy = 1 → P) (h4 : a.dx = -1 → a.dy = -1 → P) : P := by
  obtain ⟨e1, e2, _, _⟩ := h
  rcases e1 with e1 | e1 <;> rcases e2 with e2 | e2
  · exact h1 e1 e2
  · exact h2 e1 e2
  · exact h3 e1 e2
  · exact h4 e1 e2
theorem mul_small2 {a b : Int} (a0 : 0 ≤ a) (a1 : a ≤ 16) (b0 : 1 ≤ b) (b1 : b ≤ 8) : 0 ≤ a * 2 * b ∧ a * 2 * b ≤ 256 := by
  rcases eight b0 b1 with rfl | rfl | rfl | rfl | rfl | rfl | rfl | rfl <;> omega
end Go.Proofs.YtocellbhpjiioaaGreat
