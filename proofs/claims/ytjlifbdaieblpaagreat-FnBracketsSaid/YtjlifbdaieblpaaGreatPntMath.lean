/-
  The inner points of a panel by their numbers, in plain Lean. Conditions: a valid panel's sides.
-/
import Derived.Test.YtjlifbdaieblpaaGreatTrMath3
namespace Go.Proofs.YtjlifbdaieblpaaGreat
set_option linter.unusedVariables false

/-- the inner point with a number -/
def pntX (wd k : Int) : Int := if k % (2 * wd - 1) < wd - 1 then 2 * (k % (2 * wd - 1)) + 2 else 2 * (k % (2 * wd - 1) - (wd - 1)) + 1
def pntY (wd k : Int) : Int := if k % (2 * wd - 1) < wd - 1 then 2 * (k / (2 * wd - 1)) + 1 else 2 * (k / (2 * wd - 1)) + 2
def pnt (wd k : Int) : Int × Int := (pntX wd k, pntY wd k)
section
variable {wd ht : Int}
theorem pnt_facts (hs : Sz wd ht) {k : Nat} (hk : (k : Int) < innerN wd ht) : OnP wd ht (pntX wd k) (pntY wd k) ∧ ¬ Edge wd ht (pntX wd k) (pntY wd k) ∧ numI wd (pntX wd k) (pntY wd k) = (k : Int) ∧ (1 ≤ pntY wd k ∧ pntY wd k ≤ 2 * ht - 1) ∧ (1 ≤ pntX wd k ∧ pntX wd k ≤ 2 * wd - 1) := by
  obtain ⟨s1, s2, s3, s4⟩ := hs
  unfold innerN at hk
  unfold OnP Edge numI pntX pntY
  by_cases hr : (k : Int) % (2 * wd - 1) < wd - 1
  · simp only [if_pos hr]
    rcases eight s1 s2 with rfl | rfl | rfl | rfl | rfl | rfl | rfl | rfl <;> omega
  · simp only [if_neg hr]
    rcases eight s1 s2 with rfl | rfl | rfl | rfl | rfl | rfl | rfl | rfl <;> omega
/-- rows of points -/
theorem pnt_row (hs : Sz wd ht) {k : Nat} (hk : (k : Int) < innerN wd ht) : rowI wd (pntY wd k) ≤ (k : Int) ∧ (k : Int) < rowI wd (pntY wd k + 1) ∧ pntX wd k = 2 * ((k : Int) - rowI wd (pntY wd k)) + 1 + (pntY wd k) % 2 := by
  obtain ⟨s1, s2, s3, s4⟩ := hs
  unfold innerN at hk
  unfold rowI pntX pntY
  by_cases hr : (k : Int) % (2 * wd - 1) < wd - 1
  · simp only [if_pos hr]
    rcases eight s1 s2 with rfl | rfl | rfl | rfl | rfl | rfl | rfl | rfl <;> omega
  · simp only [if_neg hr]
    rcases eight s1 s2 with rfl | rfl | rfl | rfl | rfl | rfl | rfl | rfl <;> omega
theorem row_mono (h1 : 1 ≤ wd) (h2 : wd ≤ 8) {y z : Int} (hy : 1 ≤ y) (hyz : y ≤ z) (hz : z ≤ 16) : rowI wd y ≤ rowI wd z := by
  unfold rowI
  rcases eight h1 h2 with rfl | rfl | rfl | rfl | rfl | rfl | rfl | rfl <;> omega
/-- an inner point is the one with its number -/
theorem pnt_num (hs : Sz wd ht) {x y : Int} (hp : OnP wd ht x y) (he : ¬ Edge wd ht x y) {k : Nat} (hk : numI wd x y = (k : Int)) : pnt wd k = (x, y) := by
  obtain ⟨s1, s2, s3, s4⟩ := hs
  unfold OnP at hp
  unfold Edge at he
  unfold numI at hk
  unfold pnt pntX pntY
  have key : ((k : Int) % (2 * wd - 1) < wd - 1 → 2 * ((k : Int) % (2 * wd - 1)) + 2 = x ∧ 2 * ((k : Int) / (2 * wd - 1)) + 1 = y) ∧ (¬ (k : Int) % (2 * wd - 1) < wd - 1 → 2 * ((k : Int) % (2 * wd - 1) - (wd - 1)) + 1 = x ∧ 2 * ((k : Int) / (2 * wd - 1)) + 2 = y) := by
    by_cases hy : y % 2 = 1
    · obtain ⟨m, rfl⟩ : ∃ m, y = 2 * m + 1 := ⟨(y - 1) / 2, by omega⟩
      obtain ⟨n, rfl⟩ : ∃ n, x = 2 * n + 2 := ⟨(x - 2) / 2, by omega⟩
      have e1 : (2 * m + 1) / 2 = m := by omega
      have e2 : (2 * n + 2 - 1) / 2 = n := by omega
      have hn : 0 ≤ n ∧ n < wd - 1 := by omega
      rw [e1, e2] at hk
      have e3 : (k : Int) = (2 * wd - 1) * m + n := by
        rcases eight s1 s2 with rfl | rfl | rfl | rfl | rfl | rfl | rfl | rfl <;> omega
      have e4 : (k : Int) / (2 * wd - 1) = m := by
        rcases eight s1 s2 with rfl | rfl | rfl | rfl | rfl | rfl | rfl | rfl <;> omega
      have e5 : (k : Int) % (2 * wd - 1) = n := by
        rcases eight s1 s2 with rfl | rfl | rfl | rfl | rfl | rfl | rfl | rfl <;> omega
      rw [e4, e5]
      exact ⟨fun _ => ⟨rfl, rfl⟩, fun h => absurd hn.2 h⟩
    · obtain ⟨m, rfl⟩ : ∃ m, y = 2 * m + 2 := ⟨(y - 2) / 2, by omega⟩
      obtain ⟨n, rfl⟩ : ∃ n, x = 2 * n + 1 := ⟨(x - 1) / 2, by omega⟩
      have e1 : (2 * m + 2) / 2 = m + 1 := by omega
      have e2 : (2 * n + 1 - 1) / 2 = n := by omega
      have hn : 0 ≤ n ∧ n < wd := by omega
      rw [e1, e2] at hk
      have e3 : (k : Int) = (2 * wd - 1) * m + (n + (wd - 1)) := by
        rcases eight s1 s2 with rfl | rfl | rfl | rfl | rfl | rfl | rfl | rfl <;> omega
      have e4 : (k : Int) / (2 * wd - 1) = m := by
        rcases eight s1 s2 with rfl | rfl | rfl | rfl | rfl | rfl | rfl | rfl <;> omega
      have e5 : (k : Int) % (2 * wd - 1) = n + (wd - 1) := by
        rcases eight s1 s2 with rfl | rfl | rfl | rfl | rfl | rfl | rfl | rfl <;> omega
      rw [e4, e5]
      exact ⟨fun h => by omega, fun _ => ⟨by omega, rfl⟩⟩
  by_cases hr : (k : Int) % (2 * wd - 1) < wd - 1
  · rw [if_pos hr, if_pos hr]
    rw [(key.1 hr).1, (key.1 hr).2]
  · rw [if_neg hr, if_neg hr]
    rw [(key.2 hr).1, (key.2 hr).2]
end
/-- the first n points -/
def ptsN (wd : Int) (n : Nat) : List (Int × Int) := (List.range n).map fun k : Nat => pnt wd (k : Int)
theorem ptsN_len (wd : Int) (n : Nat) : (ptsN wd n).length = n := by simp [ptsN]
theorem ptsN_at {wd : Int} {n k : Nat} (h : k < n) : (ptsN wd n)[k]? = some (pnt wd k) := by simp [ptsN, h]
theorem ptsN_next (wd : Int) (n : Nat) : ptsN wd (n + 1) = ptsN wd n ++ [pnt wd n] := by
  unfold ptsN
  rw [List.range_succ, List.map_append]
  rfl
end Go.Proofs.YtjlifbdaieblpaaGreat
