/-
  Words for memory that all later texts use: a row of cells that reads as a list, a row that the call made, and how both are carried over new blocks, draws, stores and calls. Conditions: none; nothing of the program is named here.
-/
import Derived.WalkKit
import Derived.WalkSpells
import Derived.WalkLawsBesides
import Derived.Lib.Hide
import Derived.Deep.Draws
import Derived.Deep.AppendLies
namespace Go.Proofs.Ytnjojnnapdhijaa
open Go.RowKit
set_option linter.unusedVariables false

theorem block_of_add (a : Addr) (n : Nat) : (a.add n).block = a.block := by unfold Addr.add; split <;> rfl

/-- The row of cells that begins at A reads as cs. -/
def Rd (w : World) (A : Option Addr) (cs : List Value) : Prop :=
  0 < cs.length → ∃ b off, A = some ⟨b, off, none⟩ ∧ ∀ j u, cs[j]? = some u → w.cell? ⟨b, off + j, none⟩ = some u

/-- Whatever block A names. -/
def blk (A : Option Addr) : Option Nat := A.map (·.block)

theorem blk_inj {b o k : Nat} {s : Option Nat} (h : blk (some ⟨b, o, s⟩) = some k) : b = k := by injection h
theorem blk_ne {b o g : Nat} {s : Option Nat} (h : b ≠ g) : blk (some ⟨b, o, s⟩) ≠ some g := fun e => h (by injection e)

section
variable {w w' : World} {A : Option Addr} {cs : List Value}
theorem Rd.nil (w : World) (A : Option Addr) : Rd w A [] := fun h => absurd h (by simp)

theorem Rd.at_ (h : Rd w A cs) {k : Nat} (hk : k < cs.length) :
    ∃ b off u, A = some ⟨b, off, none⟩ ∧ b < w.heap.size ∧ cs[k]? = some u ∧ w.cell? ⟨b, off + k, none⟩ = some u := by
  obtain ⟨b, off, e, hc⟩ := h (by omega)
  have hu : cs[k]? = some cs[k] := List.getElem?_eq_getElem hk
  exact ⟨b, off, cs[k], e, World.block_lt_of_cell? w ⟨b, off + k, none⟩ (hc k _ hu), hu, hc k _ hu⟩

theorem Rd.lt (h : Rd w A cs) (hn : 0 < cs.length) {g : Nat} (hg : blk A = some g) : g < w.heap.size := by
  obtain ⟨b, off, u, rfl, hb, _⟩ := h.at_ hn
  simp [blk] at hg
  omega

theorem Rd.keep (h : Rd w A cs) (hk : ∀ b, b < w.heap.size → blk A = some b → w'.heap[b]? = w.heap[b]?) : Rd w' A cs := fun hn => by
  obtain ⟨b, off, u, rfl, hb, _⟩ := h.at_ hn
  obtain ⟨b', off', e, hc⟩ := h hn
  refine ⟨b', off', e, fun j u hu => ?_⟩
  have he : b' = b := by injection e with e; injection e with e1 e2; exact e1.symm
  subst he
  rw [World.cell?_of_block (w := w) (hk b' hb (by simp [blk]))]
  exact hc j u hu

theorem Rd.below (h : Rd w A cs) (hb : Below w.heap.size w w') : Rd w' A cs := h.keep fun b h1 _ => hb.block b h1
theorem Rd.alloc (h : Rd w A cs) (o : Obj) : Rd (w.alloc o) A cs := h.keep fun b h1 _ => Below.heap_alloc w o b h1
theorem Rd.drew (h : Rd w A cs) : Rd w.drew A cs := h
theorem Rd.drewN (h : Rd w A cs) (n : Nat) : Rd (w.drewN n) A cs := h
theorem Rd.setCell (h : Rd w A cs) {p : Addr} (hp : blk A ≠ some p.block) (u : Value) : Rd (w.setCell p u) A cs :=
  h.keep fun b _ h2 => Below.heap_setCell w p u b (fun e => hp (by rw [h2, e]))
theorem Rd.grown {row : Option Nat} (h : Rd w A cs) (hg : w.grownBy w' row) (hr : blk A = none ∨ blk A ≠ row) : Rd w' A cs :=
  h.keep fun b h1 h2 => hg.block b h1 (fun e => by
    rcases hr with hr | hr
    · rw [hr] at h2; cases h2
    · exact hr (h2.trans e))

theorem Rd.prefix_ (h : Rd w A cs) {k : Nat} : Rd w A (cs.take k) := fun hn => by
  obtain ⟨b, off, e, hc⟩ := h (by simp at hn; omega)
  refine ⟨b, off, e, fun j u hu => hc j u ?_⟩
  rw [List.getElem?_take] at hu
  split at hu
  · exact hu
  · cases hu

/-- What 's[k:]' reads as. -/
theorem Rd.drop_ (h : Rd w A cs) (k : Nat) {c : Nat} (hc : cs.length ≤ c) : Rd w (if c = k then A else A.map (·.add k)) (cs.drop k) := fun hn => by
  have hk : k < cs.length := by simp at hn; omega
  obtain ⟨b, off, e, hcell⟩ := h (by omega)
  subst e
  rw [if_neg (by omega)]
  refine ⟨b, off + k, by simp [Addr.add_lit], fun j u hu => ?_⟩
  rw [List.getElem?_drop] at hu
  have := hcell _ u hu
  rwa [← Nat.add_assoc] at this

theorem Rd.ofOwn {base : Nat} {e : TypeId} {size n c : Nat} (h : w.ownsRow base e size (.slice A n c) n cs) : Rd w A cs := fun hn => by
  rcases h.2 with ⟨hv, h0⟩ | ⟨g, cap, cur, hv, hb, hh, hnc, hcm, hcs, ht⟩
  · have := h.1
    rw [h0] at this
    simp at this
    rw [this] at hn
    simp at hn
  · injection hv with hA hn' hc'
    subst hA
    refine ⟨g, 0, rfl, fun j u hu => ?_⟩
    have := h.cells (g := g) rfl j u hu
    rwa [Addr.add_lit] at this
end

/-- A row that was there before the written one was made is not the written one. -/
theorem Rd.grownOld {w0 w w' : World} {A B : Option Addr} {cs : List Value} {base : Nat} (h : Rd w A cs) (hold : Rd w0 A cs) (hB : ∀ g, blk B = some g → base ≤ g) (hs : w0.heap.size ≤ base) (hg : w.grownBy w' (blk B)) : Rd w' A cs := fun hn =>
  h.grown hg (by
    cases hb : blk B with
    | none =>
      obtain ⟨b, off, u, rfl, hb2, _⟩ := hold.at_ hn
      exact .inr (by simp [blk])
    | some g =>
      refine .inr (fun e => ?_)
      have h1 := hold.lt hn e
      have h2 := hB g hb
      omega) hn

/-- Block b is just the cells cs of element type t, none frozen. -/
def Bx (w : World) (b : Nat) (t : TypeId) (cs : Array Value) : Prop := w.heap[b]? = some (.cells cs t (0, 0))
section
variable {w w' : World} {b : Nat} {t : TypeId} {cs : Array Value}
theorem Bx.lt (h : Bx w b t cs) : b < w.heap.size := by
  rcases Nat.lt_or_ge b w.heap.size with hlt | hge
  · exact hlt
  · unfold Bx at h; rw [Array.getElem?_eq_none hge] at h; cases h
theorem Bx.cell (h : Bx w b t cs) (i : Nat) : w.cell? ⟨b, i, none⟩ = cs[i]? := cell_of_row w b i cs t (0, 0) h
theorem Bx.frozen (h : Bx w b t cs) (i : Nat) : w.frozen? ⟨b, i, none⟩ = false := by
  unfold Bx at h
  simp [World.frozen?, h]
theorem Bx.one {u : Value} (h : Bx w b t #[u]) : w.cell? ⟨b, 0, none⟩ = some u := (h.cell 0).trans rfl
theorem Bx.two {u v : Value} (h : Bx w b t #[u, v]) : w.cell? ⟨b, 0, none⟩ = some u ∧ w.cell? ⟨b, 1, none⟩ = some v := ⟨(h.cell 0).trans rfl, (h.cell 1).trans rfl⟩
theorem Bx.three {u v x : Value} (h : Bx w b t #[u, v, x]) : w.cell? ⟨b, 0, none⟩ = some u ∧ w.cell? ⟨b, 1, none⟩ = some v ∧ w.cell? ⟨b, 2, none⟩ = some x := ⟨(h.cell 0).trans rfl, (h.cell 1).trans rfl, (h.cell 2).trans rfl⟩
theorem Bx.new (w : World) (t : TypeId) (cs : Array Value) : Bx (w.alloc (.cells cs t)) w.heap.size t cs := heap_alloc_new w _
theorem Bx.new_ (w : World) (n : Nat) (t : TypeId) (cs : Array Value) (h : n = w.heap.size) : Bx (w.alloc (.cells cs t)) n t cs := by rw [h]; exact Bx.new w t cs
theorem Bx.drew (h : Bx w b t cs) : Bx w.drew b t cs := h
theorem Bx.drewN (h : Bx w b t cs) (n : Nat) : Bx (w.drewN n) b t cs := h
theorem Bx.alloc (h : Bx w b t cs) (o : Obj) : Bx (w.alloc o) b t cs := (Below.heap_alloc w o b h.lt).trans h
theorem Bx.set_ (h : Bx w b t cs) (i : Nat) (u : Value) : Bx (w.setCell ⟨b, i, none⟩ u) b t (cs.setIfInBounds i u) := by
  unfold Bx at h ⊢
  simp [World.setCell, Array.getElem?_modify, h]
theorem Bx.far (h : Bx w b t cs) {p : Addr} (hp : b ≠ p.block) (u : Value) : Bx (w.setCell p u) b t cs := (Below.heap_setCell w p u b hp).trans h
theorem Bx.grownNe {g : Nat} (h : Bx w b t cs) (hg : w.grownBy w' (some g)) (hne : b ≠ g) : Bx w' b t cs := (hg.block b h.lt (fun e => hne (by injection e))).trans h
theorem Bx.below (h : Bx w b t cs) (hb : Below w.heap.size w w') : Bx w' b t cs := (hb.block b h.lt).trans h
theorem Bx.grown {row : Option Nat} (h : Bx w b t cs) (hg : w.grownBy w' row) (hr : row = none ∨ row ≠ some b) : Bx w' b t cs :=
  (hg.block b h.lt (fun e => by
    rcases hr with hr | hr
    · rw [hr] at e; cases e
    · exact hr e.symm)).trans h
end
/-- Ints at hand: whatever stands in an int64. -/
def I64 (x : Int) : Prop := -9223372036854775808 ≤ x ∧ x ≤ 9223372036854775807

/-- The slice that begins at A reads as the ints xs. -/
def RI (w : World) (A : Option Addr) (xs : List Int) : Prop := Rd w A (xs.map (Value.int .i64))

section
variable {w w' : World} {A : Option Addr} {xs : List Int}
theorem RI.nil (w : World) (A : Option Addr) : RI w A [] := Rd.nil w A
theorem RI.at_ (h : RI w A xs) {k : Nat} (hk : k < xs.length) :
    ∃ b off x, A = some ⟨b, off, none⟩ ∧ b < w.heap.size ∧ xs[k]? = some x ∧ w.cell? ⟨b, off + k, none⟩ = some (.int .i64 x) := by
  obtain ⟨b, off, u, e, hb, hu, hc⟩ := Rd.at_ h (k := k) (by simpa using hk)
  rw [List.getElem?_map] at hu
  cases hx : xs[k]? with
  | none => rw [hx] at hu; simp at hu
  | some x =>
    rw [hx] at hu
    simp at hu
    subst hu
    exact ⟨b, off, x, e, hb, rfl, hc⟩
theorem RI.below (h : RI w A xs) (hb : Below w.heap.size w w') : RI w' A xs := Rd.below h hb
theorem RI.alloc (h : RI w A xs) (o : Obj) : RI (w.alloc o) A xs := Rd.alloc h o
theorem RI.drew (h : RI w A xs) : RI w.drew A xs := h
theorem RI.drewN (h : RI w A xs) (n : Nat) : RI (w.drewN n) A xs := h
theorem RI.grown {row : Option Nat} (h : RI w A xs) (hg : w.grownBy w' row) (hr : blk A = none ∨ blk A ≠ row) : RI w' A xs := Rd.grown h hg hr
theorem RI.take_ (h : RI w A xs) (k : Nat) : RI w A (xs.take k) := by
  have := Rd.prefix_ h (k := k)
  rwa [← List.map_take] at this
theorem RI.drop_ (h : RI w A xs) (k : Nat) {c : Nat} (hc : xs.length ≤ c) : RI w (if c = k then A else A.map (·.add k)) (xs.drop k) := by
  have := Rd.drop_ h k (c := c) (by simpa using hc)
  rwa [← List.map_drop] at this
theorem RI.lt (h : RI w A xs) (hn : 0 < xs.length) {g : Nat} (hg : blk A = some g) : g < w.heap.size := Rd.lt h (by simpa using hn) hg
end

/-- The slice (A, xs.length, c) is one that the call made: its row lies in a block from 'base' on, is written out, and may be written. -/
def OwnI (w : World) (base : Nat) (A : Option Addr) (c : Nat) (xs : List Int) : Prop := w.ownsRow base 2 1 (.slice A xs.length c) xs.length (xs.map (Value.int .i64))

section
variable {w w' : World} {base : Nat} {A : Option Addr} {c : Nat} {xs : List Int}
theorem OwnI.rd (h : OwnI w base A c xs) : RI w A xs := Rd.ofOwn h
theorem OwnI.cap (h : OwnI w base A c xs) : xs.length ≤ c ∧ c ≤ maxLen := by
  rcases h.2 with ⟨hv, h0⟩ | ⟨g, cap, cur, hv, hb, hh, hnc, hcm, hcs, ht⟩
  · injection hv with hA hn hc
    subst hc
    exact ⟨by omega, by simp [maxLen]⟩
  · injection hv with hA hn hc
    subst hc
    exact ⟨hnc, hcm⟩
theorem OwnI.ge (h : OwnI w base A c xs) {g : Nat} (hg : blk A = some g) : base ≤ g ∧ g < w.heap.size := by
  refine World.ownsRow.lt h g ?_
  cases A with
  | none => simp [blk] at hg
  | some a => simpa [blk, Value.ownBlock] using hg
theorem OwnI.keep (h : OwnI w base A c xs) (hk : ∀ b, b < w.heap.size → blk A = some b → w'.heap[b]? = w.heap[b]?) : OwnI w' base A c xs := by
  refine ⟨h.1, ?_⟩
  rcases h.2 with hn | ⟨g, cap, cur, hv, hb, hgg, rest⟩
  · exact .inl hn
  · refine .inr ⟨g, cap, cur, hv, hb, ?_, rest⟩
    rw [hk g (Array.getElem?_eq_some_iff.1 hgg).1 (by injection hv with hA; subst hA; rfl)]
    exact hgg
theorem OwnI.below (h : OwnI w base A c xs) (hb : Below w.heap.size w w') : OwnI w' base A c xs := h.keep fun b h1 _ => hb.block b h1
theorem OwnI.alloc (h : OwnI w base A c xs) (o : Obj) : OwnI (w.alloc o) base A c xs := h.keep fun b h1 _ => Below.heap_alloc w o b h1
theorem OwnI.drew (h : OwnI w base A c xs) : OwnI w.drew base A c xs := h
theorem OwnI.drewN (h : OwnI w base A c xs) (n : Nat) : OwnI (w.drewN n) base A c xs := h
theorem OwnI.grown {row : Option Nat} (h : OwnI w base A c xs) (hg : w.grownBy w' row) (hr : blk A = none ∨ blk A ≠ row) : OwnI w' base A c xs :=
  h.keep fun b h1 h2 => hg.block b h1 (fun e => by
    rcases hr with hr | hr
    · rw [hr] at h2; cases h2
    · exact hr (h2.trans e))
theorem OwnI.mono {base' : Nat} (h : OwnI w base A c xs) (hb : base' ≤ base) : OwnI w base' A c xs := by
  refine ⟨h.1, ?_⟩
  rcases h.2 with hn | ⟨g, cap, cur, hv, hg, rest⟩
  · exact .inl hn
  · exact .inr ⟨g, cap, cur, hv, by omega, rest⟩
theorem OwnI.setLow (h : OwnI w base A c xs) {p : Addr} (hp : p.block < base) (u : Value) : OwnI (w.setCell p u) base A c xs :=
  h.keep fun b _ h2 => Below.heap_setCell w p u b (fun e => by have := h.ge h2; omega)
theorem OwnI.nil (w : World) (base : Nat) : OwnI w base none 0 [] := World.ownsRow_nil w base _ 1
/-- An element at hand: its cell, that it may be written, and what a store leaves. -/
theorem OwnI.at_ (h : OwnI w base A c xs) {k : Nat} (hk : k < xs.length) :
    ∃ g x, A = some ⟨g, 0, none⟩ ∧ base ≤ g ∧ g < w.heap.size ∧ xs[k]? = some x ∧ w.cell? ⟨g, k, none⟩ = some (.int .i64 x) ∧ w.frozen? ⟨g, k, none⟩ = false ∧
      ∀ y, OwnI (w.setCell ⟨g, k, none⟩ (.int .i64 y)) base A c (xs.set k y) ∧ w.grownBy (w.setCell ⟨g, k, none⟩ (.int .i64 y)) (some g) := by
  rcases h.2 with ⟨hv, h0⟩ | ⟨g, cap, cur, hv, hb, hh, hnc, hcm, hcs, ht⟩
  · omega
  · injection hv with hA hn hc
    subst hA hc
    have h' : w.ownsRow base 2 1 (.slice (some ⟨g, 0, none⟩) xs.length c) xs.length (xs.map (Value.int .i64)) := h
    have hx : xs[k]? = some xs[k] := List.getElem?_eq_getElem hk
    refine ⟨g, xs[k], rfl, hb, (Array.getElem?_eq_some_iff.1 hh).1, hx, ?_, h'.frozenAt k, fun y => ?_⟩
    · rw [h'.cellAt k (by omega), List.getElem?_map, hx]; rfl
    · have hs := h'.stored k (.int .i64 y)
      refine ⟨?_, hs.2⟩
      unfold OwnI
      rw [List.length_set, List.map_set]
      exact hs.1
/-- A row that 'make' or a literal has just laid. -/
theorem OwnI.new (w : World) {base : Nat} (xs : List Int) (cs : Array Value) (hcs : cs.toList = xs.map (Value.int .i64)) (hb : base ≤ w.heap.size) (hm : xs.length ≤ maxLen) :
    OwnI (w.alloc (.cells cs 2)) base (some ⟨w.heap.size, 0, none⟩) xs.length xs := by
  have hl : cs.size = xs.length := by rw [← Array.length_toList, hcs, List.length_map]
  have := World.ownsRow_lit (base := base) (e := 2) (size := 1) w cs xs.length hb hm (by omega)
  rwa [hcs] at this
end

/-- Two rows of the call's own, one made after the other. -/
theorem OwnI.grownNew {w0 w w' : World} {base b0 : Nat} {A B : Option Addr} {c d : Nat} {xs ys : List Int} (h : OwnI w base A c xs) (hx : OwnI w0 b0 B d ys) (hs : w0.heap.size ≤ base) (hg : w.grownBy w' (blk B)) : OwnI w' base A c xs :=
  h.keep fun b h1 h2 => hg.block b h1 (fun e => by
    have := hx.ge e.symm
    have := h.ge h2
    omega)
theorem OwnI.box_ne {w w0 : World} {base b : Nat} {t : TypeId} {cs : Array Value} {A : Option Addr} {c : Nat} {xs : List Int} (h : OwnI w base A c xs) (hb : Bx w b t cs) (hne : t ≠ 2) : blk A ≠ some b := fun e => by
  rcases h.2 with ⟨hv, h0⟩ | ⟨g, cap, cur, hv, _, hh, _⟩
  · injection hv with hA
    subst hA
    cases e
  · injection hv with hA
    subst hA
    have hgb : g = b := by injection e
    subst hgb
    unfold Bx at hb
    rw [hb] at hh
    injection hh with hh
    injection hh with _ ht
    exact hne ht
theorem Bx.grownOwn {w w' : World} {b : Nat} {t : TypeId} {cs : Array Value} {base : Nat} {A : Option Addr} {c : Nat} {xs : List Int} (h : Bx w b t cs) (ho : OwnI w base A c xs) (hne : t ≠ 2) (hg : w.grownBy w' (blk A)) : Bx w' b t cs :=
  h.grown hg (.inr (ho.box_ne (w0 := w) h hne))
theorem RI.grownOld {w0 w w' : World} {A B : Option Addr} {xs ys : List Int} {base d : Nat} (h : RI w A xs) (hold : RI w0 A xs) (ho : OwnI w base B d ys) (hs : w0.heap.size ≤ base) (hg : w.grownBy w' (blk B)) : RI w' A xs :=
  Rd.grownOld h hold (fun g hgb => (ho.ge hgb).1) hs hg
theorem below_mark {w w0 w' : World} {B base : Nat} {A : Option Addr} {c : Nat} {xs : List Int} (h : Below B w0 w) (ho : OwnI w base A c xs) (hg : w.grownBy w' (blk A)) (h1 : B ≤ base) (h2 : B ≤ w.heap.size) : Below B w0 w' :=
  h.grown hg h2 (fun k hk => Nat.le_trans h1 (ho.ge hk).1)
theorem below_widen {B B' : Nat} {a b c : World} (h : Below B a b) (k : Below B' b c) (hB : B ≤ B') : Below B a c := h.trans (k.mono hB)
theorem below_own {B : Nat} {a w w' : World} {g : Nat} (h : Below B a w) (hg : w.grownBy w' (some g)) (hB : B ≤ w.heap.size) (hgB : B ≤ g) : Below B a w' := h.grown hg hB (fun k hk => by injection hk with hk; omega)

theorem grown_trans {a b c : World} {r : Option Nat} (h : a.grownBy b r) (k : b.grownBy c r) : a.grownBy c r :=
  ⟨k.os.trans h.os, k.tape.trans h.tape, k.output.trans h.output, Nat.le_trans h.size k.size, fun i hi hn => (k.block i (Nat.lt_of_lt_of_le hi h.size) hn).trans (h.block i hi hn)⟩
/-- What lay below reads as before: two rules that a walk uses by itself. -/
theorem bcell {W w1 : World} (hb : Below W.heap.size W w1) : (∀ b o, b < W.heap.size → w1.cell? ⟨b, o, none⟩ = W.cell? ⟨b, o, none⟩) ∧ (∀ b o, b < W.heap.size → w1.frozen? ⟨b, o, none⟩ = W.frozen? ⟨b, o, none⟩) :=
  ⟨fun b o h => hb.cell (p := ⟨b, o, none⟩) h, fun b o h => hb.frozen (p := ⟨b, o, none⟩) h⟩
/-- No part of this is taken apart by a walk: a fact kept behind a name. -/
theorem hide {p : Prop} (h : p) : Hid p := h
theorem unhide {p : Prop} (h : Hid p) : p := h
theorem ret_int {k : IntKind} {a b : Int} (h : a = b) : Ending.returned (.int k a) = .returned (.int k b) := by rw [h]

end Go.Proofs.Ytnjojnnapdhijaa
