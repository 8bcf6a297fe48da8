/-
  Words for slices of structs of ints: what they read as, and rows of the call's own. Conditions: none.
-/
import Derived.Test.YtnjojnnapdhijaaMem
namespace Go.Proofs.Ytnjojnnapdhijaa
open Go.RowKit
set_option linter.unusedVariables false

theorem flat_at {α : Type} (f : α → List Value) (k : Nat) (hf : ∀ x, (f x).length = k) : ∀ (l : List α) (i j : Nat), j < k → (l.flatMap f)[i * k + j]? = (l[i]?).bind fun x => (f x)[j]?
  | [], i, j, hj => by simp
  | x :: t, 0, j, hj => by
    rw [List.flatMap_cons, Nat.zero_mul, Nat.zero_add, List.getElem?_append_left (by rw [hf]; exact hj)]
    rfl
  | x :: t, i + 1, j, hj => by
    have hle : (f x).length ≤ (i + 1) * k + j := by rw [hf, Nat.add_mul, Nat.one_mul]; omega
    rw [List.flatMap_cons, List.getElem?_append_right hle, hf]
    have : (i + 1) * k + j - k = i * k + j := by rw [Nat.add_mul, Nat.one_mul]; omega
    rw [this, flat_at f k hf t i j hj]
    rfl
theorem flat_len {α : Type} (f : α → List Value) (k : Nat) (hf : ∀ x, (f x).length = k) (l : List α) : (l.flatMap f).length = l.length * k := by
  induction l with
  | nil => simp
  | cons x t ih => rw [List.flatMap_cons, List.length_append, hf, ih, List.length_cons, Nat.add_mul, Nat.one_mul]; omega
theorem flat_take {α : Type} (f : α → List Value) (k : Nat) (hf : ∀ x, (f x).length = k) : ∀ (l : List α) (i : Nat), (l.take i).flatMap f = (l.flatMap f).take (i * k)
  | [], i => by simp
  | x :: t, 0 => by simp
  | x :: t, i + 1 => by
    rw [List.take_succ_cons, List.flatMap_cons, List.flatMap_cons, flat_take f k hf t i, List.take_append, hf]
    have e1 : (i + 1) * k - k = i * k := by rw [Nat.add_mul, Nat.one_mul]; omega
    have e2 : k ≤ (i + 1) * k := by rw [Nat.add_mul, Nat.one_mul]; omega
    rw [e1, List.take_of_length_le (l := f x) (by rw [hf]; exact e2)]
theorem flat_set {α : Type} (f : α → List Value) (k : Nat) (hf : ∀ x, (f x).length = k) (l : List α) (i : Nat) (y : α) (m : Nat) : ((l.set i y).flatMap f)[m]? = if m / k = i ∧ i < l.length ∧ 0 < k then (f y)[m % k]? else (l.flatMap f)[m]? := by
  rcases Nat.eq_zero_or_pos k with hk | hk
  · have h0 : ∀ l' : List α, l'.flatMap f = [] := fun l' => List.eq_nil_of_length_eq_zero (by rw [flat_len f k hf, hk]; simp)
    rw [h0, h0, if_neg (by omega)]
  · have hm : m = (m / k) * k + m % k := by rw [Nat.mul_comm]; exact (Nat.div_add_mod m k).symm
    have hlt := Nat.mod_lt m hk
    have e1 := flat_at f k hf (l.set i y) (m / k) (m % k) hlt
    have e2 := flat_at f k hf l (m / k) (m % k) hlt
    rw [← hm] at e1 e2
    rw [e1, e2]
    by_cases hi : m / k = i
    · by_cases hl : i < l.length
      · rw [if_pos ⟨hi, hl, hk⟩, hi, List.getElem?_set_self hl]; rfl
      · rw [if_neg (fun h => hl h.2.1), hi, List.getElem?_eq_none (by simp; omega), List.getElem?_eq_none (by omega)]
    · rw [if_neg (fun h => hi h.1), List.getElem?_set_ne (by omega)]

/-- a point's two cells -/
def ptC (p : Int × Int) : List Value := [.int .i64 p.1, .int .i64 p.2]
theorem ptC_len (p : Int × Int) : (ptC p).length = 2 := rfl
/-- a move's three cells -/
def mvC (m : Int × Int × Int) : List Value := [.int .i64 m.1, .int .i64 m.2.1, .int .i64 m.2.2]
theorem mvC_len (m : Int × Int × Int) : (mvC m).length = 3 := rfl

/-- The slice that begins at A reads as these points. -/
def RP (w : World) (A : Option Addr) (ps : List (Int × Int)) : Prop := Rd w A (ps.flatMap ptC)
section
variable {w w' : World} {A : Option Addr} {ps : List (Int × Int)}
theorem RP.nil (w : World) (A : Option Addr) : RP w A [] := Rd.nil w A
theorem RP.at_ (h : RP w A ps) {k : Nat} (hk : k < ps.length) :
    ∃ b off x y, A = some ⟨b, off, none⟩ ∧ b < w.heap.size ∧ ps[k]? = some (x, y) ∧ w.cell? ⟨b, off + k * 2, none⟩ = some (.int .i64 x) ∧ w.cell? ⟨b, off + k * 2 + 1, none⟩ = some (.int .i64 y) := by
  have hl := flat_len ptC 2 ptC_len ps
  obtain ⟨b, off, e, hc⟩ := h (by omega)
  have hx : ps[k]? = some ps[k] := List.getElem?_eq_getElem hk
  have h0 := flat_at ptC 2 ptC_len ps k 0 (by omega)
  have h1 := flat_at ptC 2 ptC_len ps k 1 (by omega)
  rw [hx] at h0 h1
  have c0 := hc _ _ h0
  have c1 := hc _ _ h1
  exact ⟨b, off, ps[k].1, ps[k].2, e, World.block_lt_of_cell? w ⟨b, _, none⟩ c0, hx, c0, by rw [← Nat.add_assoc] at c1; exact c1⟩
theorem RP.below (h : RP w A ps) (hb : Below w.heap.size w w') : RP w' A ps := Rd.below h hb
theorem RP.alloc (h : RP w A ps) (o : Obj) : RP (w.alloc o) A ps := Rd.alloc h o
theorem RP.drew (h : RP w A ps) : RP w.drew A ps := h
theorem RP.drewN (h : RP w A ps) (n : Nat) : RP (w.drewN n) A ps := h
theorem RP.grown {row : Option Nat} (h : RP w A ps) (hg : w.grownBy w' row) (hr : blk A = none ∨ blk A ≠ row) : RP w' A ps := Rd.grown h hg hr
theorem RP.take_ (h : RP w A ps) (k : Nat) : RP w A (ps.take k) := by
  unfold RP
  rw [flat_take ptC 2 ptC_len]
  exact Rd.prefix_ h
theorem RP.lt (h : RP w A ps) (hn : 0 < ps.length) {g : Nat} (hg : blk A = some g) : g < w.heap.size := Rd.lt h (by rw [flat_len ptC 2 ptC_len]; omega) hg
end
end Go.Proofs.Ytnjojnnapdhijaa
