/-
  Words for codes that are changed after they were drawn: a row read, choices drawn, the row changed. No condition.
-/
import Derived.Test.YtnjojnnapdhijaaDrawC
namespace Go.Proofs.Ytnjojnnapdhijaa
open Go.RowKit
set_option linter.unusedVariables false

/-- what is drawn and changed: a code that reads -/
def RetDv (w : World) (b : Nat) (A : Option Addr) (c : Nat) (xs : List Int) (K n m : Nat) (e : Ending) (w' : World) : Prop :=
  ∃ (code : List (List Int)) (B : Option Addr) (d : Nat), e = .returned (.slice B code.length d) ∧ CodeB n m code ∧ Dr w' w.heap.size B d code ∧ Sr w' b A c xs K ∧ w.grownBy w' (some b)
theorem CodeB.sum {n m : Nat} {code : List (List Int)} (h : CodeB n m code) : sumLen code ≤ code.length * m := by
  have h2 := h.2
  clear h
  unfold sumLen
  induction code with
  | nil => simp
  | cons r t ih =>
    have h3 := ih (fun q hq => h2 q (List.mem_cons_of_mem _ hq))
    have h4 := (h2 r (List.mem_cons_self ..)).1
    rw [List.map_cons, List.sum_cons, List.length_cons, Nat.succ_mul]
    omega
section
variable {w w' : World} {base top b : Nat} {A : Option Addr} {c : Nat} {code : List (List Int)}
/-- a row read; the same row after choices were drawn -/
theorem OwnC.rowSrc (h : OwnC w base top A c code) (ht : top ≤ w.heap.size) (hb : b < base) {p : Nat} (hp : p < code.length) :
    ∃ g B d ys, A = some ⟨g, 0, none⟩ ∧ base ≤ g ∧ g < w.heap.size ∧ code[p]? = some ys ∧ w.cell? ⟨g, p, none⟩ = some (.slice B ys.length d) ∧ OwnI w base B d ys ∧ (∀ q, blk B = some q → base ≤ q ∧ q < top) ∧
      ∀ w7, w.grownBy w7 (some b) → OwnI w7 base B d ys ∧ w7.cell? ⟨g, p, none⟩ = some (.slice B ys.length d) ∧ w7.frozen? ⟨g, p, none⟩ = false ∧
        (∀ w8 zs, zs.length = ys.length → OwnI w8 base B d zs → w7.grownBy w8 (blk B) → OwnC w8 base top A c (code.set p zs)) ∧
        (∀ (o : Obj) (w1 : World) (B' : Option Addr) (d' : Nat) (zs : List Int), (w7.alloc o).grownBy w1 (blk B) → OwnI w1 base B' d' zs → (blk B' = blk B ∨ blk B' = some (w7.alloc o).heap.size) →
          w1.cell? ⟨g, p, none⟩ = some (.slice B ys.length d) ∧ w1.frozen? ⟨g, p, none⟩ = false ∧ OwnC (w1.setCell ⟨g, p, none⟩ (.slice B' zs.length d')) base w1.heap.size A c (code.set p zs)) := by
  obtain ⟨g, B, d, ys, rfl, hgb, hgt, hgs, hys, hc, hf, ho, hB, _⟩ := h.row hp
  refine ⟨g, B, d, ys, rfl, hgb, hgs, hys, hc, ho, fun q hq => ⟨(ho.ge hq).1, hB q hq⟩, fun w7 hg => ?_⟩
  have hz := hg.size
  have own7 := h.src hg hb ht
  have hblk : w7.heap[g]? = w.heap[g]? := hg.block g hgs (fun e => by injection e with e; omega)
  have hc7 : w7.cell? ⟨g, p, none⟩ = some (.slice B ys.length d) := by rw [← hc]; simp only [World.cell?, hblk]
  obtain ⟨g', B', d', ys', e1, _, _, _, hys', hc', hf', ho', _, hcl⟩ := own7.row hp
  injection e1 with e1
  injection e1 with e1
  subst e1
  rw [hys] at hys'
  injection hys' with hys'
  subst hys'
  rw [hc7] at hc'
  injection hc' with hc'
  injection hc' with e2 _ e3
  subst e2 e3
  obtain ⟨g', B', d', ys', e1, _, _, hys', hc'', _, _, _, hpush⟩ := own7.pushAt (by omega) hp
  injection e1 with e1
  injection e1 with e1
  subst e1
  rw [hys] at hys'
  injection hys' with hys'
  subst hys'
  rw [hc7] at hc''
  injection hc'' with hc''
  injection hc'' with e2 _ e3
  subst e2 e3
  exact ⟨ho', hc7, hf', hcl, hpush⟩
/-- the first element struck from row p -/
theorem OwnC.tailDr {g p d : Nat} {B : Option Addr} {ys : List Int} (h : OwnC w base top (some ⟨g, 0, none⟩) c code) (ht : top ≤ w.heap.size) (hp : p < code.length) (hys : code[p]? = some ys) (hc : w.cell? ⟨g, p, none⟩ = some (.slice B ys.length d)) (hl : 1 < ys.length) :
    ∃ gB, B = some ⟨gB, 0, none⟩ ∧ base ≤ gB ∧ Dr (w.setCell ⟨g, p, none⟩ (.slice (some ⟨gB, 1, none⟩) (ys.length - 1) (d - 1))) base (some ⟨g, 0, none⟩) c (code.set p ys.tail) := by
  have hcap := h.cap_
  obtain ⟨hs, h1, h2, h3, h4, h5⟩ := h
  obtain ⟨g', hd, e, hgb, hgs, hx, hcc, hf⟩ := h1.row (k := p) (by omega)
  injection e with e
  injection e with e
  subst e
  obtain ⟨g1, g2, g3⟩ := h4 p hd _ hx hys
  have hc0 : w.cell? ⟨g, p, none⟩ = some (.slice hd.A ys.length hd.c) := by
    have := hcc 0 _ rfl
    rw [← g1]
    simpa [hdE] using this
  rw [hc] at hc0
  injection hc0 with hc0
  injection hc0 with e1 _ e3
  obtain ⟨gB, x, hB, hgBb, hgBs, _⟩ := g2.at_ (k := 0) (by omega)
  refine ⟨gB, by rw [e1]; exact hB, hgBb, hs.set p ⟨some ⟨gB, 1, none⟩, ys.length - 1, d - 1⟩, ?_, fun q hq _ => ?_, by rw [List.length_set, List.length_set]; exact h3, by rw [List.length_set]; exact hcap, fun i h xs q1 q2 => ?_⟩
  · have := (h1.put (k := p) (j := 0) (x := hd) (y := ⟨some ⟨gB, 1, none⟩, ys.length - 1, d - 1⟩) (u := .slice (some ⟨gB, 1, none⟩) (ys.length - 1) (d - 1)) hx (by simp [hdE]) rfl).1
    simpa [hdE] using this.rd
  · have e9 : q = g := by simp [blk] at hq; exact hq.symm
    rw [World.size_setCell]
    exact ⟨by omega, by omega⟩
  · have hkeep : ∀ q, q < w.heap.size → q ≠ g → (w.setCell ⟨g, p, none⟩ (.slice (some ⟨gB, 1, none⟩) (ys.length - 1) (d - 1))).heap[q]? = w.heap[q]? := fun q _ hq => Below.heap_setCell w ⟨g, p, none⟩ _ q hq
    by_cases hip : i = p
    · subst hip
      rw [List.getElem?_set_self (by omega)] at q1
      rw [List.getElem?_set_self hp] at q2
      injection q1 with q1
      injection q2 with q2
      subst q1 q2
      have hcp := g2.cap
      have hrd := (g2.keep (w' := w.setCell ⟨g, i, none⟩ (.slice (some ⟨gB, 1, none⟩) (ys.length - 1) (d - 1))) (fun q hq he => hkeep q hq (fun e => by
        rcases g2.ne_hd h1 with h | h
        · rw [h] at he; cases he
        · exact h (by rw [he, e]; rfl)))).rd
      have hdr := hrd.drop_ 1 (c := ys.length) (Nat.le_refl _)
      rw [if_neg (by omega), hB] at hdr
      refine ⟨by simp, by simp; omega, by have := hcp.2; simp [maxLen] at this; simp; omega, ?_, fun q hq _ => ?_⟩
      · rw [← List.drop_one]
        exact hdr
      · have e9 : q = gB := by simp [blk] at hq; exact hq.symm
        rw [World.size_setCell]
        exact ⟨by omega, by omega⟩
    · rw [List.getElem?_set_ne (by omega)] at q1 q2
      obtain ⟨m1, m2, m3⟩ := h4 i h xs q1 q2
      have m2' := m2.keep (w' := w.setCell ⟨g, p, none⟩ (.slice (some ⟨gB, 1, none⟩) (ys.length - 1) (d - 1))) (fun q hq he => hkeep q hq (fun e => by
        rcases m2.ne_hd h1 with h | h
        · rw [h] at he; cases he
        · exact h (by rw [he, e]; rfl)))
      have hcp := m2'.cap
      exact ⟨m1, hcp.1, by simpa [maxLen] using hcp.2, m2'.rd, fun q hq _ => m2'.ge hq⟩
end
end Go.Proofs.Ytnjojnnapdhijaa
