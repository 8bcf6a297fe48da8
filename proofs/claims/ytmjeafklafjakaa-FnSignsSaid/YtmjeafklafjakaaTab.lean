/-
  Words for square tables in memory. Conditions: none; nothing of the program is named here.
-/
import Derived.Test.YtmjeafklafjakaaCode1
import Derived.Test.YtmjeafklafjakaaLinkMath
import Derived.Test.YtmjeafklafjakaaRowsG
namespace Go.Proofs.Ytmjeafklafjakaa
open Go.RowKit
set_option linter.unusedVariables false

section
variable {w w' : World} {base top : Nat} {A : Option Addr} {c : Nat} {t : List (List Int)}
/-- A number at hand, and what a store leaves. -/
theorem OwnC.cellAt (h : OwnC w base top A c t) {a b : Nat} {xs : List Int} {v : Int} (hx : t[a]? = some xs) (hv : xs[b]? = some v) :
    ∃ g B d, A = some ⟨g, 0, none⟩ ∧ base ≤ g ∧ g < top ∧ base ≤ B ∧ B < top ∧ g ≠ B ∧ w.cell? ⟨g, a, none⟩ = some (.slice (some ⟨B, 0, none⟩) xs.length d) ∧ w.cell? ⟨B, b, none⟩ = some (.int .i64 v) ∧ w.frozen? ⟨B, b, none⟩ = false ∧
      OwnI w base (some ⟨B, 0, none⟩) d xs ∧ ∀ y, OwnC (w.setCell ⟨B, b, none⟩ (.int .i64 y)) base top A c (t.set a (xs.set b y)) ∧ w.grownBy (w.setCell ⟨B, b, none⟩ (.int .i64 y)) (some B) := by
  obtain ⟨g, B, d, xs', rfl, hg1, hg2, hg3, hx', hcell, hfr, hrow, htop, hupd⟩ := h.row (k := a) (List.getElem?_eq_some_iff.1 hx).1
  rw [hx] at hx'
  injection hx' with hx'
  subst hx'
  obtain ⟨B0, v', rfl, hB1, hB2, hv', hcv, hfv, hset⟩ := hrow.at_ (k := b) (List.getElem?_eq_some_iff.1 hv).1
  rw [hv] at hv'
  injection hv' with hv'
  subst hv'
  have hne : g ≠ B0 := fun e => by
    obtain ⟨hs, m1, _⟩ := h
    rw [← intE_own] at hrow
    rcases Own.own_ne hrow m1 (by decide) with q | q
    · simp [blk] at q
    · exact q (by rw [e])
  exact ⟨g, B0, d, rfl, hg1, hg2, hB1, htop _ rfl, hne, hcell, hcv, hfv, hrow, fun y => ⟨hupd _ _ (by rw [List.length_set]) (hset y).1 (hset y).2, (hset y).2⟩⟩
/-- A number of a square table at hand. -/
theorem OwnC.tabAt {n : Nat} {f : Nat → Nat → Int} (h : OwnC w base top A c (tab n f)) {a b : Nat} (ha : a < n) (hb : b < n) :
    ∃ g B d, A = some ⟨g, 0, none⟩ ∧ base ≤ g ∧ g < top ∧ base ≤ B ∧ B < top ∧ g ≠ B ∧ w.cell? ⟨g, a, none⟩ = some (.slice (some ⟨B, 0, none⟩) n d) ∧ w.cell? ⟨B, b, none⟩ = some (.int .i64 (f a b)) ∧ w.frozen? ⟨B, b, none⟩ = false ∧
      ∀ y, OwnC (w.setCell ⟨B, b, none⟩ (.int .i64 y)) base top A c (tab n (fun x z => if x = a ∧ z = b then y else f x z)) ∧ w.grownBy (w.setCell ⟨B, b, none⟩ (.int .i64 y)) (some B) := by
  obtain ⟨g, B, d, e, h1, h2, h3, h4, hne, h5, h6, h7, h8, h9⟩ := h.cellAt (tab_row ha) (row_at hb)
  rw [row_len] at h5
  refine ⟨g, B, d, e, h1, h2, h3, h4, hne, h5, h6, h7, fun y => ?_⟩
  obtain ⟨m1, m2⟩ := h9 y
  rw [tab_set ha hb] at m1
  exact ⟨m1, m2⟩
theorem OwnC.ge2 (h : OwnC w base top A c t) {g : Nat} (hg : blk A = some g) : base ≤ g ∧ g < top := by
  obtain ⟨hs, h1, h2, _⟩ := h
  exact ⟨(h1.ge hg).1, h2 g hg⟩
/-- a store into a row elsewhere -/
theorem OwnC.grownFar {B : Nat} (h : OwnC w base top A c t) (hg : w.grownBy w' (some B)) (hB : B < base ∨ top ≤ B) : OwnC w' base top A c t := by
  obtain ⟨hs, h1, h2, h3, h4, h5⟩ := h
  have hk : ∀ b, b < w.heap.size → base ≤ b → b < top → w'.heap[b]? = w.heap[b]? := fun b hb q1 q2 => hg.block b hb (fun e => by injection e with e; omega)
  exact ⟨hs, h1.keep (fun b hb e => hk b hb (h1.ge e).1 (h2 b e)), h2, h3, fun i d xs e1 e2 => by
    obtain ⟨g1, g2, g3⟩ := h4 i d xs e1 e2
    exact ⟨g1, g2.keep (fun b hb e => hk b hb (g2.ge e).1 (g3 b e)), g3⟩, h5⟩
theorem OwnI.grownFar {B base : Nat} {A : Option Addr} {c : Nat} {xs : List Int} (h : OwnI w base A c xs) (hg : w.grownBy w' (some B)) (hB : ∀ g, blk A = some g → g ≠ B) : OwnI w' base A c xs :=
  h.keep fun b hb e => hg.block b hb (fun e2 => hB b e (by injection e2))
theorem Own.grownFar {α : Type} {E : El α} {B base : Nat} {A : Option Addr} {c : Nat} {xs : List α} (h : Own E w base A c xs) (hg : w.grownBy w' (some B)) (hB : ∀ g, blk A = some g → g ≠ B) : Own E w' base A c xs :=
  h.keep fun b hb e => hg.block b hb (fun e2 => hB b e (by injection e2))
end
end Go.Proofs.Ytmjeafklafjakaa
