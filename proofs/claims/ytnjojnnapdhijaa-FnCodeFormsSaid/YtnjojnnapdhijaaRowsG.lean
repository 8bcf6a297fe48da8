/-
  Words for slices of slices of any kind: rows of the call's own, and how they are carried over. Conditions: none; nothing of the program is named here but its types.
-/
import Derived.Test.YtnjojnnapdhijaaGen
import Derived.Test.YtnjojnnapdhijaaTrMath
import Derived.Test.YtnjojnnapdhijaaPanel
namespace Go.Proofs.Ytnjojnnapdhijaa
open Go.RowKit
set_option linter.unusedVariables false

/-- walkers -/
def wkC (a : Wk) : List Value := [.int .i64 a.x, .int .i64 a.y, .int .i64 a.dx, .int .i64 a.dy]
def wkE : El Wk where
  cells := wkC
  size := 4
  ty := 112
  sl := 77
  bytes := 32
  z := .agg #[.int .i64 0, .int .i64 0, .int .i64 0, .int .i64 0]
  len _ := rfl
  pos := by omega
  und := Try.underlying77
  inf := by kernel_rfl
  hz := rfl
  one x u hu := by simp [wkC] at hu; rcases hu with rfl | rfl | rfl | rfl <;> rfl
/-- headers of slices of walkers -/
def hdW : El Hd where
  cells h := [.slice h.A h.n h.c]
  size := 1
  ty := 77
  sl := 74
  bytes := 24
  z := .slice none 0 0
  len _ := rfl
  pos := by omega
  und := Try.underlying74
  inf := by kernel_rfl
  hz := rfl
  one x u hu := by simp at hu; subst hu; rfl
/-- headers of slices of points -/
def hdP : El Hd where
  cells h := [.slice h.A h.n h.c]
  size := 1
  ty := 159
  sl := 147
  bytes := 24
  z := .slice none 0 0
  len _ := rfl
  pos := by omega
  und := Try.underlying147
  inf := by kernel_rfl
  hz := rfl
  one x u hu := by simp at hu; subst hu; rfl
/-- a slice's length -/
def lenOf : Value → Nat
  | .slice _ n _ => n
  | _ => 0
theorem lenOf_slice (A : Option Addr) (n c : Nat) : lenOf (.slice A n c) = n := rfl

/-- The headers hs are those of rows of the call's own, from block base on and below block top. -/
structure RowsG {α : Type} (E : El α) (w : World) (base top : Nat) (hs : List Hd) (rows : List (List α)) : Prop where
  len : hs.length = rows.length
  row : ∀ (i : Nat) (h : Hd) (r : List α), hs[i]? = some h → rows[i]? = some r → h.n = r.length ∧ Own E w base h.A h.c r ∧ ∀ g, blk h.A = some g → g < top
section
variable {α : Type} {E : El α} {w w' : World} {base top : Nat} {hs : List Hd} {rows : List (List α)}
theorem RowsG.nil (w : World) (base top : Nat) : RowsG E w base top [] [] := ⟨rfl, fun i h r e => by simp at e⟩
theorem RowsG.keep (h : RowsG E w base top hs rows) (hk : ∀ b, base ≤ b → b < top → w'.heap[b]? = w.heap[b]?) : RowsG E w' base top hs rows :=
  ⟨h.len, fun i d r e1 e2 => by
    obtain ⟨g1, g2, g3⟩ := h.row i d r e1 e2
    exact ⟨g1, g2.keep (fun b _ hb => hk b (g2.ge hb).1 (g3 b hb)), g3⟩⟩
theorem RowsG.below (h : RowsG E w base top hs rows) (hb : Below w.heap.size w w') : RowsG E w' base top hs rows :=
  ⟨h.len, fun i d r e1 e2 => by
    obtain ⟨g1, g2, g3⟩ := h.row i d r e1 e2
    exact ⟨g1, g2.below hb, g3⟩⟩
theorem RowsG.alloc (h : RowsG E w base top hs rows) (o : Obj) : RowsG E (w.alloc o) base top hs rows := h.below ((Below.refl _ _).alloc (Nat.le_refl _) o)
theorem RowsG.drewN (h : RowsG E w base top hs rows) (n : Nat) : RowsG E (w.drewN n) base top hs rows := h.below (below_drewN' (Below.refl _ _) n)
theorem RowsG.setFar {p : Addr} (h : RowsG E w base top hs rows) (hp : p.block < base ∨ top ≤ p.block) (u : Value) : RowsG E (w.setCell p u) base top hs rows :=
  h.keep fun b h1 h2 => Below.heap_setCell w p u b (by omega)
theorem RowsG.grownFar {B : Option Addr} (h : RowsG E w base top hs rows) (hg : w.grownBy w' (blk B)) (hB : ∀ g, blk B = some g → g < base ∨ top ≤ g) : RowsG E w' base top hs rows :=
  ⟨h.len, fun i d r e1 e2 => by
    obtain ⟨g1, g2, g3⟩ := h.row i d r e1 e2
    exact ⟨g1, g2.keep (fun b hb hbb => hg.block b hb (fun e => by
      have h1 := (g2.ge hbb).1
      have h2 := g3 b hbb
      have h3 := hB b e.symm
      omega)), g3⟩⟩
theorem RowsG.grownOther {β : Type} {F : El β} {b2 : Nat} {B : Option Addr} {d : Nat} {ys : List β} (h : RowsG E w base top hs rows) (hg : w.grownBy w' (blk B)) (hB : Own F w b2 B d ys) (hne : F.ty ≠ E.ty) : RowsG E w' base top hs rows :=
  ⟨h.len, fun i dd r e1 e2 => by
    obtain ⟨g1, g2, g3⟩ := h.row i dd r e1 e2
    exact ⟨g1, g2.grown hg (g2.own_ne hB hne), g3⟩⟩
theorem RowsG.mono {base' top' : Nat} (h : RowsG E w base top hs rows) (hb : base' ≤ base) (ht : top ≤ top') : RowsG E w base' top' hs rows :=
  ⟨h.len, fun i d r e1 e2 => by
    obtain ⟨g1, g2, g3⟩ := h.row i d r e1 e2
    exact ⟨g1, g2.mono hb, fun g hg => Nat.lt_of_lt_of_le (g3 g hg) ht⟩⟩
theorem RowsG.snoc {B : Option Addr} {d : Nat} {r : List α} (h : RowsG E w base top hs rows) (hr : Own E w base B d r) (ht : top ≤ w.heap.size) : RowsG E w base w.heap.size (hs ++ [⟨B, r.length, d⟩]) (rows ++ [r]) := by
  refine ⟨by rw [List.length_append, List.length_append, h.len]; rfl, fun i hd r' e1 e2 => ?_⟩
  by_cases hi : i < hs.length
  · rw [List.getElem?_append_left hi] at e1
    rw [List.getElem?_append_left (by rw [← h.len]; exact hi)] at e2
    obtain ⟨g1, g2, g3⟩ := h.row i hd r' e1 e2
    exact ⟨g1, g2, fun g hg => (g2.ge hg).2⟩
  · rw [List.getElem?_append_right (by omega)] at e1
    rw [List.getElem?_append_right (by rw [← h.len]; omega)] at e2
    have hi0 : i - hs.length = 0 := by
      have := (List.getElem?_eq_some_iff.1 e1).1
      simp at this
      omega
    rw [hi0] at e1
    rw [← h.len, hi0] at e2
    simp at e1 e2
    subst e1 e2
    exact ⟨rfl, hr, fun g hg => (hr.ge hg).2⟩
/-- a row at hand -/
theorem RowsG.at_ (h : RowsG E w base top hs rows) {k : Nat} (hk : k < rows.length) : ∃ hd r, hs[k]? = some hd ∧ rows[k]? = some r ∧ hd.n = r.length ∧ Own E w base hd.A hd.c r ∧ ∀ g, blk hd.A = some g → g < top := by
  have hk' : k < hs.length := by rw [h.len]; exact hk
  have h1 : hs[k]? = some hs[k] := List.getElem?_eq_getElem hk'
  have h2 : rows[k]? = some rows[k] := List.getElem?_eq_getElem hk
  obtain ⟨g1, g2, g3⟩ := h.row k _ _ h1 h2
  exact ⟨_, _, h1, h2, g1, g2, g3⟩
end
/-- carrying ints over a store into a row of another kind -/
theorem OwnI.grownOther {β : Type} {F : El β} {w w' : World} {base b2 : Nat} {A B : Option Addr} {c d : Nat} {xs : List Int} {ys : List β} (h : OwnI w base A c xs) (hg : w.grownBy w' (blk B)) (hB : Own F w b2 B d ys) (hne : F.ty ≠ 2) : OwnI w' base A c xs := by
  rw [← intE_own] at h ⊢
  exact h.grown hg (h.own_ne hB hne)
theorem Own.grownOther {α β : Type} {E : El α} {F : El β} {w w' : World} {base b2 : Nat} {A B : Option Addr} {c d : Nat} {xs : List α} {ys : List β} (h : Own E w base A c xs) (hg : w.grownBy w' (blk B)) (hB : Own F w b2 B d ys) (hne : F.ty ≠ E.ty) : Own E w' base A c xs :=
  h.grown hg (h.own_ne hB hne)
theorem Own.grownInts {α : Type} {E : El α} {w w' : World} {base b2 : Nat} {A B : Option Addr} {c d : Nat} {xs : List α} {ys : List Int} (h : Own E w base A c xs) (hg : w.grownBy w' (blk B)) (hB : OwnI w b2 B d ys) (hne : 2 ≠ E.ty) : Own E w' base A c xs := by
  rw [← intE_own] at hB
  exact h.grownOther hg hB hne
theorem Bx.grownG {α : Type} {E : El α} {w w' : World} {b : Nat} {t : TypeId} {cs : Array Value} {base : Nat} {A : Option Addr} {c : Nat} {xs : List α} (h : Bx w b t cs) (ho : Own E w base A c xs) (hne : t ≠ E.ty) (hg : w.grownBy w' (blk A)) : Bx w' b t cs :=
  h.grown hg (.inr (ho.box_ne h hne))
/-- cells of a walker in a row -/
theorem Own.wk /- 77 -/ {w : World} {base : Nat} {A : Option Addr} {c : Nat} {l : List Wk} (h : Own wkE w base A c l) {k : Nat} (hk : k < l.length) :
    ∃ g a, A = some ⟨g, 0, none⟩ ∧ base ≤ g ∧ g < w.heap.size ∧ l[k]? = some a ∧ w.cell? ⟨g, k * 4, none⟩ = some (.int .i64 a.x) ∧ w.cell? ⟨g, k * 4 + 1, none⟩ = some (.int .i64 a.y) ∧ w.cell? ⟨g, k * 4 + 2, none⟩ = some (.int .i64 a.dx) ∧ w.cell? ⟨g, k * 4 + 3, none⟩ = some (.int .i64 a.dy) ∧ (∀ o, w.frozen? ⟨g, o, none⟩ = false) := by
  obtain ⟨g, a, e, h1, h2, h3, h4, h5⟩ := h.row hk
  exact ⟨g, a, e, h1, h2, h3, h4 0 _ rfl, h4 1 _ rfl, h4 2 _ rfl, h4 3 _ rfl, h5⟩
theorem hdE_cell /- 74 -/ {w : World} {base : Nat} {A : Option Addr} {c : Nat} {hs : List Hd} (h : Own hdW w base A c hs) {k : Nat} {d : Hd} (hk : hs[k]? = some d) : ∃ g, A = some ⟨g, 0, none⟩ ∧ base ≤ g ∧ g < w.heap.size ∧ w.cell? ⟨g, k, none⟩ = some (.slice d.A d.n d.c) := by
  obtain ⟨g, a, e, h1, h2, h3, h4, h5⟩ := h.row (k := k) (List.getElem?_eq_some_iff.1 hk).1
  rw [hk] at h3
  injection h3 with h3
  subst h3
  exact ⟨g, e, h1, h2, by have := h4 0 _ rfl; simpa [hdW] using this⟩
end Go.Proofs.Ytnjojnnapdhijaa
