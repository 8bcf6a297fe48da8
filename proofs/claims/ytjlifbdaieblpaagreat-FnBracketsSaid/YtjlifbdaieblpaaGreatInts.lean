/-
  Contracts of the laws' helpers over a slice of int64: copy, size, equality, marks. Conditions: the lengths are far below the machine's.
-/
import Derived.Test.YtjlifbdaieblpaaGreatMem
import Derived.Test.YtjlifbdaieblpaaGreatRows
import Derived.BigQuiet
import Derived.Deep.RegionHeld3
import Derived.Deep.DeepCutAuto
namespace Go.Proofs.YtjlifbdaieblpaaGreat
open Go.RowKit
set_option linter.unusedVariables false

theorem info_i64 : (Tryz.prog.info? 2).map (fun i => (i.zero, i.size, i.bytes)) = some (some (.int .i64 0), 1, 8) := by kernel_rfl

/-- A function that hands back a slice of ints of its own. -/
def RetI (w : World) (xs : List Int) (e : Ending) (w' : World) : Prop :=
  ∃ A c, e = .returned (.slice A xs.length c) ∧ OwnI w' w.heap.size A c xs ∧ Below w.heap.size w w'

theorem run_make_i64 (n : Nat) (hn : n ≤ 35184372088832) (W : World) :
    (Instr.makeSlice 24 (.int .i64 (n : Int)) (.int .i64 (n : Int))).run Tryz.prog W = .ok (.slice (some ⟨W.heap.size, 0, none⟩) n n) (W.alloc (.cells (madeCells #[.int .i64 0] n) 2)) := by
  obtain ⟨i0, hi, hz0, hz1, hz2⟩ := info_parts info_i64
  have hr := run_make (P := Tryz.prog) W 24 2 i0 (.int .i64 0) Tryz.underlying24 hi hz0 .i64 .i64 n n (by omega) (by omega) (by rw [hz2]; omega) (by omega)
  rw [hz1] at hr
  simp only [Int.toNat_natCast, Nat.mul_one] at hr
  exact hr

theorem OwnI.made (w : World) {base : Nat} (n : Nat) {m : Nat} (hn : n = w.heap.size) (hb : base ≤ w.heap.size) (hm : m ≤ 9223372036854775807) :
    OwnI (w.alloc (.cells (madeCells #[.int .i64 0] m) 2)) base (some ⟨n, 0, none⟩) m (List.replicate m 0) := by
  subst hn
  have := OwnI.new w (base := base) (List.replicate m 0) (madeCells #[.int .i64 0] m) (by rw [toList_madeCells_one]; simp) hb (by simp [maxLen]; omega)
  simpa using this

theorem OwnI.cap_ {w : World} {base : Nat} {A : Option Addr} {c : Nat} {xs : List Int} (h : OwnI w base A c xs) : xs.length ≤ c ∧ c ≤ 9223372036854775807 := by simpa [maxLen] using h.cap

theorem take_set_next (xs ys : List Int) (k : Nat) (x : Int) (hx : xs[k]? = some x) (hy : ys.length = xs.length) (ht : ys.take k = xs.take k) :
    (ys.set k x).take (k + 1) = xs.take (k + 1) := by
  apply List.ext_getElem?
  intro j
  have hk : k < xs.length := (List.getElem?_eq_some_iff.1 hx).1
  have h := congrArg (fun l : List Int => l[j]?) ht
  simp only [List.getElem?_take] at h ⊢
  by_cases h1 : j < k + 1
  · rw [if_pos h1, if_pos h1]
    by_cases h2 : j = k
    · subst h2; rw [hx]; simp [hy, hk]
    · rw [if_pos (by omega), if_pos (by omega)] at h
      rw [List.getElem?_set_ne (by omega)]; exact h
  · rw [if_neg h1, if_neg h1]

/-- A function that only reads: its value, and some draws. -/
def RetQ (w : World) (v : Value) (e : Ending) (w' : World) : Prop := e = .returned v ∧ ∃ n, w' = w.drewN n

theorem take_eq_all {xs ys : List Int} {k : Nat} (hl : xs.length = ys.length) (hk : k = xs.length) (h : xs.take k = ys.take k) : xs = ys := by
  rw [hk, List.take_of_length_le (Nat.le_refl _), List.take_of_length_le (by omega)] at h
  exact h
theorem take_eq_next {xs ys : List Int} {k : Nat} {x : Int} (hx : xs[k]? = some x) (hy : ys[k]? = some x) (h : xs.take k = ys.take k) : xs.take (k + 1) = ys.take (k + 1) := by
  rw [List.take_add_one, List.take_add_one, h, hx, hy]
theorem ne_at {xs ys : List Int} {k : Nat} {x y : Int} (hx : xs[k]? = some x) (hy : ys[k]? = some y) (h : x ≠ y) : decide (xs = ys) = false := by
  apply decide_eq_false
  intro e
  rw [e, hy] at hx
  injection hx with hx
  exact h hx.symm
theorem ne_len {xs ys : List Int} (h : xs.length ≠ ys.length) : decide (xs = ys) = false := by
  apply decide_eq_false
  intro e
  exact h (by rw [e])

/-- k, k + 1, .. -/
def marks (k : Int) (n : Nat) : List Int := (List.range n).map fun i : Nat => k + (i : Int)
theorem marks_length (k : Int) (n : Nat) : (marks k n).length = n := by simp [marks]
theorem marks_at (k : Int) {n j : Nat} (h : j < n) : (marks k n)[j]? = some (k + j) := by simp [marks, h]
theorem marks_set (k : Int) {xs : List Int} {j : Nat} (hj : j < xs.length) (h : xs.take j = marks k j) : (xs.set j (k + j)).take (j + 1) = marks k (j + 1) := by
  have hm : marks k (j + 1) = marks k j ++ [k + j] := by simp [marks, List.range_succ]
  rw [List.take_add_one, List.getElem?_set_self hj, List.take_set_of_le (Nat.le_refl _), h, hm]
  rfl

end Go.Proofs.YtjlifbdaieblpaaGreat
