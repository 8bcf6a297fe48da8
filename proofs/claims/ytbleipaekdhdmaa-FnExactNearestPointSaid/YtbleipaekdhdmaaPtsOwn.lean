/-
  Rows of points of the call's own. Conditions: none.
-/
import Derived.Test.YtbleipaekdhdmaaPtsMem
import Derived.Test.YtbleipaekdhdmaaInts
import Derived.Test.YtbleipaekdhdmaaPolyOk
namespace Go.Proofs.Ytbleipaekdhdmaa
open Go.RowKit
set_option linter.unusedVariables false

/-- The slice (A, ps.length, c) of points is one that the call made. -/
def OwnP (w : World) (base : Nat) (A : Option Addr) (c : Nat) (ps : List (Int × Int)) : Prop := w.ownsRow base 30 2 (.slice A ps.length c) ps.length (ps.flatMap ptC)

theorem flat_setX (ps : List (Int × Int)) (k : Nat) (x y z : Int) (h : ps[k]? = some (x, y)) : (ps.set k (z, y)).flatMap ptC = (ps.flatMap ptC).set (k * 2) (.int .i64 z) := by
  have hk : k < ps.length := (List.getElem?_eq_some_iff.1 h).1
  have hl := flat_len ptC 2 ptC_len ps
  apply List.ext_getElem?
  intro m
  rw [flat_set ptC 2 ptC_len]
  by_cases h1 : k * 2 = m
  · subst h1
    rw [List.getElem?_set_self (by omega), if_pos ⟨by omega, hk, by omega⟩, show k * 2 % 2 = 0 by omega]
    rfl
  · rw [List.getElem?_set_ne h1]
    split
    · rename_i h2
      have h3 := flat_at ptC 2 ptC_len ps k 1 (by omega)
      rw [show m = k * 2 + 1 by omega, h3, h, show (k * 2 + 1) % 2 = 1 by omega]
      rfl
    · rfl
theorem flat_setY (ps : List (Int × Int)) (k : Nat) (x y z : Int) (h : ps[k]? = some (x, y)) : (ps.set k (x, z)).flatMap ptC = (ps.flatMap ptC).set (k * 2 + 1) (.int .i64 z) := by
  have hk : k < ps.length := (List.getElem?_eq_some_iff.1 h).1
  have hl := flat_len ptC 2 ptC_len ps
  apply List.ext_getElem?
  intro m
  rw [flat_set ptC 2 ptC_len]
  by_cases h1 : k * 2 + 1 = m
  · subst h1
    rw [List.getElem?_set_self (by omega), if_pos ⟨by omega, hk, by omega⟩, show (k * 2 + 1) % 2 = 1 by omega]
    rfl
  · rw [List.getElem?_set_ne h1]
    split
    · rename_i h2
      have h3 := flat_at ptC 2 ptC_len ps k 0 (by omega)
      rw [Nat.add_zero] at h3
      rw [show m = k * 2 by omega, h3, h, show (k * 2) % 2 = 0 by omega]
      rfl
    · rfl

section
variable {w w' : World} {base : Nat} {A : Option Addr} {c : Nat} {ps : List (Int × Int)}
theorem OwnP.rd (h : OwnP w base A c ps) : RP w A ps := Rd.ofOwn h
theorem OwnP.cap_ (h : OwnP w base A c ps) : ps.length ≤ c ∧ c ≤ 9223372036854775807 := by
  rcases h.2 with ⟨hv, h0⟩ | ⟨g, cap, cur, hv, hb, hh, hnc, hcm, hcs, ht⟩
  · injection hv with hA hn hc
    subst hc
    omega
  · injection hv with hA hn hc
    subst hc
    exact ⟨hnc, by simpa [maxLen] using hcm⟩
theorem OwnP.ge (h : OwnP w base A c ps) {g : Nat} (hg : blk A = some g) : base ≤ g ∧ g < w.heap.size := by
  refine World.ownsRow.lt h g ?_
  cases A with
  | none => simp [blk] at hg
  | some a => simpa [blk, Value.ownBlock] using hg
theorem OwnP.keep (h : OwnP w base A c ps) (hk : ∀ b, b < w.heap.size → blk A = some b → w'.heap[b]? = w.heap[b]?) : OwnP w' base A c ps := by
  refine ⟨h.1, ?_⟩
  rcases h.2 with hn | ⟨g, cap, cur, hv, hb, hgg, rest⟩
  · exact .inl hn
  · refine .inr ⟨g, cap, cur, hv, hb, ?_, rest⟩
    rw [hk g (Array.getElem?_eq_some_iff.1 hgg).1 (by injection hv with hA; subst hA; rfl)]
    exact hgg
theorem OwnP.below (h : OwnP w base A c ps) (hb : Below w.heap.size w w') : OwnP w' base A c ps := h.keep fun b h1 _ => hb.block b h1
theorem OwnP.alloc (h : OwnP w base A c ps) (o : Obj) : OwnP (w.alloc o) base A c ps := h.keep fun b h1 _ => Below.heap_alloc w o b h1
theorem OwnP.drew (h : OwnP w base A c ps) : OwnP w.drew base A c ps := h
theorem OwnP.drewN (h : OwnP w base A c ps) (n : Nat) : OwnP (w.drewN n) base A c ps := h
theorem OwnP.mono {base' : Nat} (h : OwnP w base A c ps) (hb : base' ≤ base) : OwnP w base' A c ps := by
  refine ⟨h.1, ?_⟩
  rcases h.2 with hn | ⟨g, cap, cur, hv, hbb, rest⟩
  · exact .inl hn
  · exact .inr ⟨g, cap, cur, hv, Nat.le_trans hb hbb, rest⟩
theorem OwnP.setLow (h : OwnP w base A c ps) {p : Addr} (hp : p.block < base) (u : Value) : OwnP (w.setCell p u) base A c ps :=
  h.keep fun b _ h2 => Below.heap_setCell w p u b (fun e => by have := (h.ge h2).1; omega)
theorem OwnP.nil (w : World) (base : Nat) : OwnP w base none 0 [] := World.ownsRow_nil w base _ 2
theorem OwnP.grownNew {w0 : World} {b0 : Nat} {B : Option Addr} {d : Nat} {qs : List (Int × Int)} (h : OwnP w base A c ps) (hx : OwnP w0 b0 B d qs) (hs : w0.heap.size ≤ base) (hg : w.grownBy w' (blk B)) : OwnP w' base A c ps :=
  h.keep fun b h1 h2 => hg.block b h1 (fun e => by
    have := hx.ge e.symm
    have := h.ge h2
    omega)
/-- A point at hand: its two cells, that they may be written, and what a store into either leaves. -/
theorem OwnP.at_ (h : OwnP w base A c ps) {k : Nat} (hk : k < ps.length) :
    ∃ g x y, A = some ⟨g, 0, none⟩ ∧ base ≤ g ∧ g < w.heap.size ∧ ps[k]? = some (x, y) ∧ w.cell? ⟨g, k * 2, none⟩ = some (.int .i64 x) ∧ w.cell? ⟨g, k * 2 + 1, none⟩ = some (.int .i64 y) ∧ w.frozen? ⟨g, k * 2, none⟩ = false ∧ w.frozen? ⟨g, k * 2 + 1, none⟩ = false ∧
      (∀ z, OwnP (w.setCell ⟨g, k * 2, none⟩ (.int .i64 z)) base A c (ps.set k (z, y)) ∧ w.grownBy (w.setCell ⟨g, k * 2, none⟩ (.int .i64 z)) (some g)) ∧
      (∀ z, OwnP (w.setCell ⟨g, k * 2 + 1, none⟩ (.int .i64 z)) base A c (ps.set k (x, z)) ∧ w.grownBy (w.setCell ⟨g, k * 2 + 1, none⟩ (.int .i64 z)) (some g)) := by
  have hl := flat_len ptC 2 ptC_len ps
  rcases h.2 with ⟨hv, h0⟩ | ⟨g, cap, cur, hv, hb, hh, hnc, hcm, hcs, ht⟩
  · omega
  · injection hv with hA hn hc
    subst hA hc
    have h' : w.ownsRow base 30 2 (.slice (some ⟨g, 0, none⟩) ps.length c) ps.length (ps.flatMap ptC) := h
    have hx : ps[k]? = some ps[k] := List.getElem?_eq_getElem hk
    have f0 := flat_at ptC 2 ptC_len ps k 0 (by omega)
    have f1 := flat_at ptC 2 ptC_len ps k 1 (by omega)
    rw [hx] at f0 f1
    refine ⟨g, ps[k].1, ps[k].2, rfl, hb, (Array.getElem?_eq_some_iff.1 hh).1, hx, ?_, ?_, h'.frozenAt _, h'.frozenAt _, fun z => ?_, fun z => ?_⟩
    · rw [h'.cellAt (k * 2) (by omega)]; exact f0
    · rw [h'.cellAt (k * 2 + 1) (by omega)]; exact f1
    · have hs := h'.stored (k * 2) (.int .i64 z)
      refine ⟨?_, hs.2⟩
      unfold OwnP
      rw [List.length_set, flat_setX ps k ps[k].1 ps[k].2 z hx]
      exact hs.1
    · have hs := h'.stored (k * 2 + 1) (.int .i64 z)
      refine ⟨?_, hs.2⟩
      unfold OwnP
      rw [List.length_set, flat_setY ps k ps[k].1 ps[k].2 z hx]
      exact hs.1
theorem OwnP.new (w : World) {base : Nat} (ps : List (Int × Int)) (cs : Array Value) (hcs : cs.toList = ps.flatMap ptC) (hb : base ≤ w.heap.size) (hm : ps.length ≤ maxLen) :
    OwnP (w.alloc (.cells cs 30)) base (some ⟨w.heap.size, 0, none⟩) ps.length ps := by
  have hl : cs.size = ps.length * 2 := by rw [← Array.length_toList, hcs, flat_len ptC 2 ptC_len]
  have := World.ownsRow_lit (base := base) (e := 30) (size := 2) w cs ps.length hb hm (by omega)
  rwa [hcs] at this
end
end Go.Proofs.Ytbleipaekdhdmaa
