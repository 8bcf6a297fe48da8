/-
  Contracts of the two tests whether a polynomial is valid, of the program and of the reference. Conditions: the length is far below the machine's.
-/
import Derived.Test.YtnjojnnapdhijaaInts
namespace Go.Proofs.Ytnjojnnapdhijaa
open Go.RowKit
set_option linter.unusedVariables false

/-- A function that hands back a value and leaves what was there as it was. -/
def RetV (w : World) (v : Value) (e : Ending) (w' : World) : Prop := e = .returned v ∧ Below w.heap.size w w'

def inB (x lo hi : Int) : Bool := decide (lo ≤ x ∧ x ≤ hi)
theorem inB_true {x lo hi : Int} : inB x lo hi = true ↔ lo ≤ x ∧ x ≤ hi := by simp [inB]
theorem inB_false {x lo hi : Int} : inB x lo hi = false ↔ x < lo ∨ hi < x := by
  rw [← Bool.not_eq_true, inB_true]; omega
theorem inRange_any (x lo hi : Int) (w : World) :
    Calls Try.prog 57 #[.int .i64 x, .int .i64 lo, .int .i64 hi] w fun e w' => e = .returned (.bool (inB x lo hi)) ∧ w = w' := by
  by_cases h1 : lo ≤ x
  · by_cases h2 : x ≤ hi
    · have HB := hide (inB_true.2 ⟨h1, h2⟩)
      go_enter Try.func57, Try.ntmps57
      go_wp2
      go_ret
      rw [HB.out]
      exact ⟨rfl, rfl⟩
    · have HB := hide ((inB_false (lo := lo)).2 (.inr (Int.not_le.1 h2)))
      go_enter Try.func57, Try.ntmps57
      go_wp2
      go_ret
      rw [HB.out]
      exact ⟨rfl, rfl⟩
  · have HB := hide ((inB_false (hi := hi)).2 (.inl (Int.not_le.1 h1)))
    go_enter Try.func57, Try.ntmps57
    go_wp2
    go_ret
    rw [HB.out]
    exact ⟨rfl, rfl⟩
theorem l00In_any (x lo hi : Int) (w : World) :
    Calls Try.prog 65 #[.int .i64 x, .int .i64 lo, .int .i64 hi] w fun e w' => e = .returned (.bool (inB x lo hi)) ∧ w = w' := by
  by_cases h1 : lo ≤ x
  · by_cases h2 : x ≤ hi
    · have HB := hide (inB_true.2 ⟨h1, h2⟩)
      go_enter Try.func65, Try.ntmps65
      go_wp2
      go_ret
      rw [HB.out]
      exact ⟨rfl, rfl⟩
    · have HB := hide ((inB_false (lo := lo)).2 (.inr (Int.not_le.1 h2)))
      go_enter Try.func65, Try.ntmps65
      go_wp2
      go_ret
      rw [HB.out]
      exact ⟨rfl, rfl⟩
  · have HB := hide ((inB_false (hi := hi)).2 (.inl (Int.not_le.1 h1)))
    go_enter Try.func65, Try.ntmps65
    go_wp2
    go_ret
    rw [HB.out]
    exact ⟨rfl, rfl⟩

def coefB (x : Int) : Bool := inB x (-1000000000000) 1000000000000
def vldP (low : Int) (xs : List Int) : Bool :=
  if xs.length = 0 then low == 0 else xs.all coefB && (decide (xs.length ≤ 400) && (inB low (-1000) 1000 && (xs.getD 0 0 != 0 && xs.getD (xs.length - 1) 0 != 0)))

theorem all_next {p : Int → Bool} {xs : List Int} {k : Nat} {x : Int} (hx : xs[k]? = some x) (h : (xs.take k).all p = true) (hp : p x = true) : (xs.take (k + 1)).all p = true := by
  rw [List.take_add_one, hx, List.all_append, h]
  simp [hp]
theorem all_bad {p : Int → Bool} {xs : List Int} {k : Nat} {x : Int} (hx : xs[k]? = some x) (hp : p x = false) : xs.all p = false := by
  rw [Bool.eq_false_iff]
  intro h
  rw [List.all_eq_true] at h
  rw [h x (List.mem_of_getElem? hx)] at hp
  cases hp
theorem vldP_bad {low : Int} {xs : List Int} (hn : 0 < xs.length) (h : xs.all coefB = false) : vldP low xs = false := by
  unfold vldP
  rw [if_neg (by omega), h]
  rfl
theorem vldP_end {low : Int} {xs : List Int} (hn : 0 < xs.length) (h : xs.all coefB = true) :
    vldP low xs = (decide (xs.length ≤ 400) && (inB low (-1000) 1000 && (xs.getD 0 0 != 0 && xs.getD (xs.length - 1) 0 != 0))) := by
  unfold vldP
  rw [if_neg (by omega), h, Bool.true_and]
theorem vldP_none {low : Int} {xs : List Int} (hn : xs.length = 0) : vldP low xs = (low == 0) := by
  unfold vldP
  rw [if_pos hn]
theorem getD_of {xs : List Int} {k : Nat} {x : Int} (h : xs[k]? = some x) : xs.getD k 0 = x := by
  rw [List.getD_eq_getElem?_getD, h]; rfl

end Go.Proofs.Ytnjojnnapdhijaa
