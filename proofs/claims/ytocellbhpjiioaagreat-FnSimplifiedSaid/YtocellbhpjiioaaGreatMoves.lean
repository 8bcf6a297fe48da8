/-
  Contracts of the laws' helpers over moves and lists of moves; whether a move has its form. Conditions: the lengths are far below the machine's.
-/
import Derived.Test.YtocellbhpjiioaaGreatPolyOkM
import Derived.Outline
namespace Go.Proofs.YtocellbhpjiioaaGreat
open Go.RowKit
set_option linter.unusedVariables false

section
variable {w : World} {base : Nat} {A : Option Addr} {c : Nat} {xs : List (Int × Int × Int)}
theorem mv_at (h : RG mvE w A xs) {k : Nat} (hk : k < xs.length) :
    ∃ b off x y z, A = some ⟨b, off, none⟩ ∧ b < w.heap.size ∧ xs[k]? = some (x, y, z) ∧ w.cell? ⟨b, off + k * 3, none⟩ = some (.int .i64 x) ∧ w.cell? ⟨b, off + k * 3 + 1, none⟩ = some (.int .i64 y) ∧ w.cell? ⟨b, off + k * 3 + 2, none⟩ = some (.int .i64 z) := by
  obtain ⟨b, off, m, e, hb, hx, hc⟩ := h.row hk
  have c0 := hc 0 _ rfl
  have c1 := hc 1 _ rfl
  have c2 := hc 2 _ rfl
  simp only [mvE, Nat.add_zero] at c0 c1 c2
  rw [← Nat.add_assoc] at c1 c2
  exact ⟨b, off, m.1, m.2.1, m.2.2, e, hb, hx, c0, c1, c2⟩
theorem mvOwn_at (h : Own mvE w base A c xs) {k : Nat} (hk : k < xs.length) :
    ∃ g x y z, A = some ⟨g, 0, none⟩ ∧ base ≤ g ∧ g < w.heap.size ∧ xs[k]? = some (x, y, z) ∧ w.cell? ⟨g, k * 3, none⟩ = some (.int .i64 x) ∧ w.cell? ⟨g, k * 3 + 1, none⟩ = some (.int .i64 y) ∧ w.cell? ⟨g, k * 3 + 2, none⟩ = some (.int .i64 z) ∧ (∀ o, w.frozen? ⟨g, o, none⟩ = false) ∧
      ∀ x' y' z', Own mvE (((w.setCell ⟨g, k * 3, none⟩ (.int .i64 x')).setCell ⟨g, k * 3 + 1, none⟩ (.int .i64 y')).setCell ⟨g, k * 3 + 2, none⟩ (.int .i64 z')) base A c (xs.set k (x', y', z')) ∧
        w.grownBy (((w.setCell ⟨g, k * 3, none⟩ (.int .i64 x')).setCell ⟨g, k * 3 + 1, none⟩ (.int .i64 y')).setCell ⟨g, k * 3 + 2, none⟩ (.int .i64 z')) (some g) := by
  obtain ⟨g, m, rfl, hb, hs, hx, hc, hf⟩ := h.row hk
  have c0 := hc 0 _ rfl
  have c1 := hc 1 _ rfl
  have c2 := hc 2 _ rfl
  simp only [mvE, Nat.add_zero] at c0 c1 c2
  refine ⟨g, m.1, m.2.1, m.2.2, rfl, hb, hs, hx, c0, c1, c2, hf, fun x' y' z' => ?_⟩
  have p1 := h.put (k := k) (j := 0) (x := m) (y := (x', m.2.1, m.2.2)) (u := .int .i64 x') hx (by simp [mvE]) rfl
  have p2 := p1.1.put (k := k) (j := 1) (x := (x', m.2.1, m.2.2)) (y := (x', y', m.2.2)) (u := .int .i64 y') (by rw [List.getElem?_set_self hk]) (by simp [mvE]) rfl
  have p3 := p2.1.put (k := k) (j := 2) (x := (x', y', m.2.2)) (y := (x', y', z')) (u := .int .i64 z') (by rw [List.set_set, List.getElem?_set_self hk]) (by simp [mvE]) rfl
  rw [List.set_set, List.set_set] at p3
  have g2 := grown_trans (grown_trans p1.2 p2.2) p3.2
  simp only [mvE, Nat.add_zero] at p3 g2
  exact ⟨p3.1, g2⟩
end

/-- A function that hands back a row of moves of its own. -/
def RetMS (w : World) (xs : List (Int × Int × Int)) (e : Ending) (w' : World) : Prop := ∃ A c, e = .returned (.slice A xs.length c) ∧ Own mvE w' w.heap.size A c xs ∧ Below w.heap.size w w'
theorem run_make_mv (n : Nat) (hn : n ≤ 1048576) (W : World) :
    (Instr.makeSlice 26 (.int .i64 (n : Int)) (.int .i64 (n : Int))).run Tryz.prog W = .ok (.slice (some ⟨W.heap.size, 0, none⟩) n n) (W.alloc (.cells (madeCells #[.int .i64 0, .int .i64 0, .int .i64 0] (n * 3)) 46)) :=
  mvE.run_make n (by simp [mvE]; omega) (by omega) W
theorem take_set_nextM {α : Type} {xs ys : List α} {k : Nat} {x : α} (hx : xs[k]? = some x) (hy : ys.length = xs.length) (ht : ys.take k = xs.take k) :
    (ys.set k x).take (k + 1) = xs.take (k + 1) := by
  have hk : k < xs.length := (List.getElem?_eq_some_iff.1 hx).1
  rw [List.take_add_one, List.take_add_one, List.getElem?_set_self (by omega), List.take_set_of_le (Nat.le_refl _), ht, hx]

theorem ne_lenM {α : Type} [DecidableEq α] {xs ys : List α} (h : xs.length ≠ ys.length) : decide (xs = ys) = false := by
  apply decide_eq_false
  intro e
  exact h (by rw [e])
theorem ne_atM {α : Type} [DecidableEq α] {xs ys : List α} {k : Nat} {x y : α} (hx : xs[k]? = some x) (hy : ys[k]? = some y) (h : x ≠ y) : decide (xs = ys) = false := by
  apply decide_eq_false
  intro e
  rw [e, hy] at hx
  injection hx with hx
  exact h hx.symm
theorem take_eq_nextM {α : Type} {xs ys : List α} {k : Nat} {x : α} (hx : xs[k]? = some x) (hy : ys[k]? = some x) (h : xs.take k = ys.take k) : xs.take (k + 1) = ys.take (k + 1) := by
  rw [List.take_add_one, List.take_add_one, h, hx, hy]

end Go.Proofs.YtocellbhpjiioaaGreat
