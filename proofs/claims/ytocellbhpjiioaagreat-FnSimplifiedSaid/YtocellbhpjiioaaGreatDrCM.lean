/-
  Contracts: the source that begins with bytes, and the laws' helpers over bytes. Conditions: the numbers of bytes are far below the machine's.
  Words for slices of slices of ints: what they read as, rows of the call's own, and what may have been written. Conditions: none.
  Contracts of the laws' helpers over slices of slices of ints: copy, size, equality, marks. Conditions: the lengths are far below the machine's.
  Words for codes that are drawn: a row put in the place of another, codes that lie beyond a block, choices. Conditions: the numbers of bytes and of choices are far below the machine's.
-/
import Derived.Test.YtocellbhpjiioaaGreatDraw
import Derived.Test.YtocellbhpjiioaaGreatPolyOkM
namespace Go.Proofs.YtocellbhpjiioaaGreat
open Go.RowKit
set_option linter.unusedVariables false

theorem l00From_any (A : Option Addr) (n c : Nat) (w : World) : Calls Tryz.prog 23 #[.slice A n c] w fun e w' => e = .returned (.pointer (some ⟨w.heap.size, 0, none⟩)) ∧ w' = w.alloc (.cells #[.slice A n c, .int .i64 0, .int .u64 0] 70) := by
  go_enter Tryz.func23, Tryz.ntmps23
  go_wp2_with fail
  go_ret
  exact ⟨rfl, rfl⟩
theorem RB.alloc {w : World} {A : Option Addr} {xs : List Int} (h : RB w A xs) (o : Obj) : RB (w.alloc o) A xs := Rd.alloc h o
/-- the source, just made -/
theorem Sr.new (w : World) {A : Option Addr} {c : Nat} {xs : List Int} (h : RB w A xs) : Sr (w.alloc (.cells #[.slice A xs.length c, .int .i64 0, .int .u64 0] 70)) w.heap.size A c xs 0 :=
  ⟨0, 0, Nat.le_refl _, by omega, by omega, Bx.new w _ _, h.alloc _, fun hn e => by have := rb_lt h hn e; omega⟩
theorem Sr.drewN {w : World} {b : Nat} {A : Option Addr} {c : Nat} {xs : List Int} {K : Nat} (h : Sr w b A c xs K) (n : Nat) : Sr (w.drewN n) b A c xs K := h
/-- what the source alone changed lies beyond -/
theorem below_gr {w0 w w' : World} {b : Nat} (h : Below w0.heap.size w0 w) (hg : w.grownBy w' (some b)) (hb : w0.heap.size ≤ b) : Below w0.heap.size w0 w' :=
  ⟨hg.os.trans h.os, hg.tape.trans h.tape, hg.output.trans h.output, Nat.le_trans h.size hg.size, fun i hi => (hg.block i (Nat.lt_of_lt_of_le hi h.size) (fun e => by injection e with e; omega)).trans (h.block i hi)⟩
end Go.Proofs.YtocellbhpjiioaaGreat

namespace Go.Proofs.YtocellbhpjiioaaGreat
open Go.RowKit
set_option linter.unusedVariables false

/-- What was there has turned at most from block lo on and below block hi. -/
structure Marked (w w' : World) (lo hi : Nat) : Prop where
  os : w'.os = w.os
  tape : w'.tape = w.tape
  output : w'.output = w.output
  size : w.heap.size ≤ w'.heap.size
  block : ∀ b, b < w.heap.size → (b < lo ∨ hi ≤ b) → w'.heap[b]? = w.heap[b]?
section
variable {w w' w0 : World} {lo hi : Nat}
theorem Marked.refl (w : World) (lo hi : Nat) : Marked w w lo hi := ⟨rfl, rfl, rfl, Nat.le_refl _, fun _ _ _ => rfl⟩
theorem Marked.trans {a b c : World} (h : Marked a b lo hi) (k : Marked b c lo hi) : Marked a c lo hi :=
  ⟨k.os.trans h.os, k.tape.trans h.tape, k.output.trans h.output, Nat.le_trans h.size k.size, fun i hi' hn => (k.block i (Nat.lt_of_lt_of_le hi' h.size) hn).trans (h.block i hi' hn)⟩
theorem Marked.of_grown {row : Option Nat} (hg : w.grownBy w' row) (hr : ∀ g, row = some g → lo ≤ g ∧ g < hi) : Marked w w' lo hi :=
  ⟨hg.os, hg.tape, hg.output, hg.size, fun b hb hn => hg.block b hb (fun e => by have := hr b e.symm; omega)⟩
theorem Marked.of_below (hb : Below w.heap.size w w') (lo hi : Nat) : Marked w w' lo hi := ⟨hb.os, hb.tape, hb.output, hb.size, fun b h _ => hb.block b h⟩
theorem Below.marked {B : Nat} (h : Below B w0 w) (hM : Marked w w' lo hi) (hB : B ≤ w.heap.size) (hl : B ≤ lo) : Below B w0 w' :=
  ⟨hM.os.trans h.os, hM.tape.trans h.tape, hM.output.trans h.output, Nat.le_trans h.size hM.size, fun k hk => (hM.block k (by omega) (.inl (by omega))).trans (h.block k hk)⟩
theorem Bx.marked {b : Nat} {t : TypeId} {cs : Array Value} (h : Bx w b t cs) (hM : Marked w w' lo hi) (hb : b < lo ∨ hi ≤ b) : Bx w' b t cs := (hM.block b h.lt hb).trans h
end

/-- The slice that begins at A reads as the ints xs, and lies below block top. -/
def RIT (w : World) (top : Nat) (A : Option Addr) (xs : List Int) : Prop := RI w A xs ∧ ∀ g, blk A = some g → 0 < xs.length → g < top
section
variable {w w' : World} {top : Nat} {A : Option Addr} {xs : List Int}
theorem RIT.keep (h : RIT w top A xs) (hk : ∀ b, b < top → w'.heap[b]? = w.heap[b]?) : RIT w' top A xs :=
  ⟨fun hn => Rd.keep h.1 (fun b _ hb => hk b (h.2 b hb (by simpa using hn))) hn, h.2⟩
theorem RIT.below (h : RIT w top A xs) (hb : Below w.heap.size w w') : RIT w' top A xs := ⟨h.1.below hb, h.2⟩
theorem RIT.mono {top' : Nat} (h : RIT w top A xs) (ht : top ≤ top') : RIT w top' A xs := ⟨h.1, fun g hg hn => Nat.lt_of_lt_of_le (h.2 g hg hn) ht⟩
theorem RIT.of (h : RI w A xs) : RIT w w.heap.size A xs := ⟨h, fun g hg hn => h.lt hn hg⟩
end

/-- The headers hs read as the rows of a code. -/
def RowsC (w : World) (top : Nat) (hs : List Hd) (code : List (List Int)) : Prop :=
  hs.length = code.length ∧ ∀ (i : Nat) (h : Hd) (xs : List Int), hs[i]? = some h → code[i]? = some xs → h.n = xs.length ∧ xs.length ≤ h.c ∧ h.c ≤ 9223372036854775807 ∧ RIT w top h.A xs
/-- The slice of slices that begins at A reads as a code, all below block top. -/
def RC (w : World) (top : Nat) (A : Option Addr) (code : List (List Int)) : Prop :=
  ∃ hs, RG hdE w A hs ∧ (∀ g, blk A = some g → 0 < hs.length → g < top) ∧ RowsC w top hs code
section
variable {w w' : World} {top : Nat} {A : Option Addr} {code : List (List Int)}
theorem RC.keep (h : RC w top A code) (hk : ∀ b, b < top → w'.heap[b]? = w.heap[b]?) : RC w' top A code := by
  obtain ⟨hs, h1, h2, h3, h4⟩ := h
  refine ⟨hs, fun hn => ?_, h2, h3, fun i h xs e1 e2 => ?_⟩
  · exact RG.keep h1 (fun b _ hb => hk b (h2 b hb (by rw [hdE.flen] at hn; exact Nat.pos_of_mul_pos_right hn))) hn
  · obtain ⟨g1, g2, g3, g4⟩ := h4 i h xs e1 e2
    exact ⟨g1, g2, g3, g4.keep hk⟩
theorem RC.below (h : RC w top A code) (hb : Below w.heap.size w w') : RC w' top A code := by
  obtain ⟨hs, h1, h2, h3, h4⟩ := h
  refine ⟨hs, h1.below hb, h2, h3, fun i h xs e1 e2 => ?_⟩
  obtain ⟨g1, g2, g3, g4⟩ := h4 i h xs e1 e2
  exact ⟨g1, g2, g3, g4.below hb⟩
theorem RC.alloc (h : RC w top A code) (o : Obj) : RC (w.alloc o) top A code := h.below ((Below.refl _ _).alloc (Nat.le_refl _) o)
theorem RC.drew (h : RC w top A code) : RC w.drew top A code := h
theorem RC.drewN (h : RC w top A code) (n : Nat) : RC (w.drewN n) top A code := h
theorem RC.mono {top' : Nat} (h : RC w top A code) (ht : top ≤ top') : RC w top' A code := by
  obtain ⟨hs, h1, h2, h3, h4⟩ := h
  refine ⟨hs, h1, fun g hg hn => Nat.lt_of_lt_of_le (h2 g hg hn) ht, h3, fun i h xs e1 e2 => ?_⟩
  obtain ⟨g1, g2, g3, g4⟩ := h4 i h xs e1 e2
  exact ⟨g1, g2, g3, g4.mono ht⟩
theorem RC.marked {lo hi : Nat} (h : RC w top A code) (hM : Marked w w' lo hi) (ht : top ≤ lo) (hs : top ≤ w.heap.size) : RC w' top A code :=
  h.keep fun b hb => hM.block b (by omega) (.inl (by omega))
/-- A row at hand. -/
theorem RC.row (h : RC w top A code) {k : Nat} (hk : k < code.length) :
    ∃ b off B d xs, A = some ⟨b, off, none⟩ ∧ b < w.heap.size ∧ code[k]? = some xs ∧ w.cell? ⟨b, off + k, none⟩ = some (.slice B xs.length d) ∧ xs.length ≤ d ∧ d ≤ 9223372036854775807 ∧ RI w B xs := by
  obtain ⟨hs, h1, h2, h3, h4⟩ := h
  obtain ⟨b, off, hd, e, hb, hx, hc⟩ := h1.row (k := k) (by omega)
  have hxs : code[k]? = some code[k] := List.getElem?_eq_getElem hk
  obtain ⟨g1, g2, g3, g4⟩ := h4 k hd _ hx hxs
  have hc0 := hc 0 _ rfl
  refine ⟨b, off, hd.A, hd.c, code[k], e, hb, hxs, ?_, g2, g3, g4.1⟩
  rw [← g1]
  simpa [hdE] using hc0
theorem RC.lt (h : RC w top A code) (hn : 0 < code.length) {g : Nat} (hg : blk A = some g) : g < w.heap.size := by
  obtain ⟨hs, h1, h2, h3, h4⟩ := h
  exact h1.lt (by omega) hg
end

/-- The headers hs are those of rows of the call's own, each in a block of its own. -/
def OwnRows (w : World) (base top : Nat) (hs : List Hd) (code : List (List Int)) : Prop :=
  hs.length = code.length ∧ (∀ (i : Nat) (h : Hd) (xs : List Int), hs[i]? = some h → code[i]? = some xs → h.n = xs.length ∧ OwnI w base h.A h.c xs ∧ ∀ g, blk h.A = some g → g < top) ∧
  ∀ (i j : Nat) (h h' : Hd), hs[i]? = some h → hs[j]? = some h' → i ≠ j → blk h.A = none ∨ blk h.A ≠ blk h'.A
/-- The slice of slices (A, code.length, c) is one that the call made, all from block base on and below block top. -/
def OwnC (w : World) (base top : Nat) (A : Option Addr) (c : Nat) (code : List (List Int)) : Prop :=
  ∃ hs, Own hdE w base A c hs ∧ (∀ g, blk A = some g → g < top) ∧ OwnRows w base top hs code
section
variable {w w' : World} {base top : Nat} {A : Option Addr} {c : Nat} {code : List (List Int)}
theorem OwnC.keep (h : OwnC w base top A c code) (hk : ∀ b, base ≤ b → b < top → w'.heap[b]? = w.heap[b]?) : OwnC w' base top A c code := by
  obtain ⟨hs, h1, h2, h3, h4, h5⟩ := h
  refine ⟨hs, h1.keep (fun b _ hb => hk b (h1.ge hb).1 (h2 b hb)), h2, h3, fun i h xs e1 e2 => ?_, h5⟩
  obtain ⟨g1, g2, g3⟩ := h4 i h xs e1 e2
  exact ⟨g1, g2.keep (fun b _ hb => hk b (g2.ge hb).1 (g3 b hb)), g3⟩
theorem OwnC.below (h : OwnC w base top A c code) (hb : Below w.heap.size w w') : OwnC w' base top A c code := by
  obtain ⟨hs, h1, h2, h3, h4, h5⟩ := h
  refine ⟨hs, h1.below hb, h2, h3, fun i h xs e1 e2 => ?_, h5⟩
  obtain ⟨g1, g2, g3⟩ := h4 i h xs e1 e2
  exact ⟨g1, g2.below hb, g3⟩
theorem OwnC.alloc (h : OwnC w base top A c code) (o : Obj) : OwnC (w.alloc o) base top A c code := h.below ((Below.refl _ _).alloc (Nat.le_refl _) o)
theorem OwnC.drew (h : OwnC w base top A c code) : OwnC w.drew base top A c code := h
theorem OwnC.drewN (h : OwnC w base top A c code) (n : Nat) : OwnC (w.drewN n) base top A c code := h
theorem OwnC.mono {base' top' : Nat} (h : OwnC w base top A c code) (hb : base' ≤ base) (ht : top ≤ top') : OwnC w base' top' A c code := by
  obtain ⟨hs, h1, h2, h3, h4, h5⟩ := h
  refine ⟨hs, h1.mono hb, fun g hg => Nat.lt_of_lt_of_le (h2 g hg) ht, h3, fun i h xs e1 e2 => ?_, h5⟩
  obtain ⟨g1, g2, g3⟩ := h4 i h xs e1 e2
  exact ⟨g1, g2.mono hb, fun g hg => Nat.lt_of_lt_of_le (g3 g hg) ht⟩
theorem OwnC.marked {lo hi : Nat} (h : OwnC w base top A c code) (hM : Marked w w' lo hi) (ht : top ≤ lo ∨ hi ≤ base) (hs : top ≤ w.heap.size) : OwnC w' base top A c code :=
  h.keep fun b h1 h2 => hM.block b (by omega) (by omega)
theorem OwnC.rd (h : OwnC w base top A c code) : RC w top A code := by
  obtain ⟨hs, h1, h2, h3, h4, h5⟩ := h
  refine ⟨hs, h1.rd, fun g hg _ => h2 g hg, h3, fun i h xs e1 e2 => ?_⟩
  obtain ⟨g1, g2, g3⟩ := h4 i h xs e1 e2
  have := g2.cap
  exact ⟨g1, this.1, by simpa [maxLen] using this.2, g2.rd, fun g hg _ => g3 g hg⟩
theorem OwnC.cap_ (h : OwnC w base top A c code) : code.length ≤ c ∧ c ≤ 9223372036854775807 := by
  obtain ⟨hs, h1, h2, h3, h4, h5⟩ := h
  have := h1.cap_
  omega
theorem OwnC.nil (w : World) (base top : Nat) : OwnC w base top none 0 [] := ⟨[], Own.nil w base, fun g hg => by simp [blk] at hg, rfl, fun i h xs e1 e2 => by simp at e2, fun i j h h' e1 => by simp at e1⟩
theorem OwnC.empty_ (w : World) {base : Nat} (n : Nat) (hn : n = w.heap.size) (hb : base ≤ w.heap.size) : OwnC (w.alloc (.cells #[] 65)) base (n + 1) (some ⟨n, 0, none⟩) 0 [] := by
  subst hn
  exact ⟨[], Own.new (E := hdE) w [] #[] rfl hb (by simp), fun g hg => by have := blk_inj hg; omega, rfl, fun i h xs e1 e2 => by simp at e2, fun i j h h' e1 => by simp at e1⟩
theorem OwnC.setFar {p : Addr} (h : OwnC w base top A c code) (hp : p.block < base ∨ top ≤ p.block) (u : Value) : OwnC (w.setCell p u) base top A c code :=
  h.keep fun b h1 h2 => Below.heap_setCell w p u b (by omega)
/-- The block of headers at hand. -/
theorem OwnC.row (h : OwnC w base top A c code) {k : Nat} (hk : k < code.length) :
    ∃ g B d xs, A = some ⟨g, 0, none⟩ ∧ base ≤ g ∧ g < top ∧ g < w.heap.size ∧ code[k]? = some xs ∧ w.cell? ⟨g, k, none⟩ = some (.slice B xs.length d) ∧ w.frozen? ⟨g, k, none⟩ = false ∧ OwnI w base B d xs ∧ (∀ b, blk B = some b → b < top) ∧
      (∀ w' ys, ys.length = xs.length → OwnI w' base B d ys → w.grownBy w' (blk B) → OwnC w' base top A c (code.set k ys)) := by
  obtain ⟨hs, h1, h2, h3, h4, h5⟩ := h
  obtain ⟨g, hd, e, hgb, hgs, hx, hc, hf⟩ := h1.row (k := k) (by omega)
  have hxs : code[k]? = some code[k] := List.getElem?_eq_getElem hk
  obtain ⟨g1, g2, g3⟩ := h4 k hd _ hx hxs
  have hc0 := hc 0 _ rfl
  subst e
  refine ⟨g, hd.A, hd.c, code[k], rfl, hgb, h2 g rfl, hgs, hxs, ?_, hf _, g2, g3, fun w' ys hl ho hg => ?_⟩
  · rw [← g1]
    simpa [hdE] using hc0
  · refine ⟨hs, ?_, h2, by rw [List.length_set]; exact h3, fun i h xs e1 e2 => ?_, h5⟩
    · refine h1.grown hg ?_
      rw [← intE_own] at g2
      exact Own.own_ne h1 g2 (by decide)
    · by_cases hik : i = k
      · subst hik
        rw [hx] at e1
        injection e1 with e1
        subst e1
        rw [List.getElem?_set_self hk] at e2
        injection e2 with e2
        subst e2
        exact ⟨by omega, ho, g3⟩
      · rw [List.getElem?_set_ne (Ne.symm hik)] at e2
        obtain ⟨m1, m2, m3⟩ := h4 i h xs e1 e2
        exact ⟨m1, m2.grown hg (h5 i k h hd e1 hx hik), m3⟩
/-- A new row's header laid into the block of headers. -/
theorem OwnC.put {g : Nat} {B : Option Addr} {d : Nat} {xs : List Int} (h : OwnC w base top (some ⟨g, 0, none⟩) c code) {k : Nat} (hk : k < code.length) (hrow : OwnI w top B d xs) (hbt : base ≤ top) :
    OwnC (w.setCell ⟨g, k, none⟩ (.slice B xs.length d)) base w.heap.size (some ⟨g, 0, none⟩) c (code.set k xs) ∧ w.grownBy (w.setCell ⟨g, k, none⟩ (.slice B xs.length d)) (some g) := by
  obtain ⟨hs, h1, h2, h3, h4, h5⟩ := h
  have hx : hs[k]? = some hs[k] := List.getElem?_eq_getElem (by omega)
  have hput := h1.put (k := k) (j := 0) (x := hs[k]) (y := ⟨B, xs.length, d⟩) (u := .slice B xs.length d) hx (by simp [hdE]) rfl
  have e0 : k * hdE.size + 0 = k := by simp [hdE]
  rw [e0] at hput
  have hgt := h2 g rfl
  have hgs := (h1.ge (g := g) rfl).2
  have hI : ∀ {base' : Nat} {A' : Option Addr} {c' : Nat} {ys : List Int}, OwnI w base' A' c' ys → blk A' = none ∨ blk A' ≠ some g := fun ho => by
    rw [← intE_own] at ho
    exact Own.own_ne ho h1 (by decide)
  refine ⟨⟨hs.set k ⟨B, xs.length, d⟩, hput.1, fun g' hg' => by have := blk_inj hg'; omega, by simp [h3], fun i h ys e1 e2 => ?_, fun i j h h' e1 e2 hij => ?_⟩, hput.2⟩
  · by_cases hik : i = k
    · subst hik
      rw [List.getElem?_set_self (by omega)] at e1 e2
      injection e1 with e1
      injection e2 with e2
      subst e1 e2
      exact ⟨rfl, (hrow.mono hbt).grown hput.2 (hI hrow), fun g' hg' => (hrow.ge hg').2⟩
    · rw [List.getElem?_set_ne (Ne.symm hik)] at e1 e2
      obtain ⟨m1, m2, m3⟩ := h4 i h ys e1 e2
      exact ⟨m1, m2.grown hput.2 (hI m2), fun g' hg' => (m2.ge hg').2⟩
  · by_cases hik : i = k
    · subst hik
      rw [List.getElem?_set_self (by omega)] at e1
      rw [List.getElem?_set_ne hij] at e2
      injection e1 with e1
      subst e1
      cases hb : blk B with
      | none => exact .inl rfl
      | some b =>
        have hj : j < hs.length := (List.getElem?_eq_some_iff.1 e2).1
        obtain ⟨m1, m2, m3⟩ := h4 j h' _ e2 (List.getElem?_eq_getElem (by omega))
        refine .inr (fun e => ?_)
        have := (hrow.ge (g := b) hb).1
        have := m3 b e.symm
        omega
    · rw [List.getElem?_set_ne (Ne.symm hik)] at e1
      by_cases hjk : j = k
      · subst hjk
        rw [List.getElem?_set_self (by omega)] at e2
        injection e2 with e2
        subst e2
        have hi : i < hs.length := (List.getElem?_eq_some_iff.1 e1).1
        obtain ⟨m1, m2, m3⟩ := h4 i h _ e1 (List.getElem?_eq_getElem (by omega))
        cases hb : blk h.A with
        | none => exact .inl rfl
        | some b =>
          refine .inr (fun e => ?_)
          have := (hrow.ge (g := b) e.symm).1
          have := m3 b hb
          omega
      · rw [List.getElem?_set_ne (Ne.symm hjk)] at e2
        exact h5 i j h h' e1 e2 hij
end
/-- A slice of slices that 'make' has just laid. -/
theorem OwnC.made (w : World) {base : Nat} (n : Nat) {m : Nat} (hn : n = w.heap.size) (hb : base ≤ w.heap.size) (hm : m ≤ 9223372036854775807) :
    OwnC (w.alloc (.cells (madeCells hdE.z.cells (m * hdE.size)) 65)) base (n + 1) (some ⟨n, 0, none⟩) m (List.replicate m []) := by
  have h := Own.made (E := hdE) w (base := base) n (m := m) ⟨none, 0, 0⟩ rfl hn hb hm
  refine ⟨List.replicate m ⟨none, 0, 0⟩, h, fun g hg => by have := blk_inj hg; omega, by simp, fun i h xs e1 e2 => ?_, fun i j h h' e1 e2 hij => ?_⟩
  · rw [List.getElem?_replicate] at e1 e2
    split at e1
    · rw [if_pos ‹_›] at e2
      injection e1 with e1
      injection e2 with e2
      subst e1 e2
      exact ⟨rfl, OwnI.nil _ _, fun g hg => by simp [blk] at hg⟩
    · cases e1
  · rw [List.getElem?_replicate] at e1
    split at e1
    · injection e1 with e1
      subst e1
      exact .inl rfl
    · cases e1

/-- A function that hands back a slice of slices of its own. -/
def RetC (w : World) (code : List (List Int)) (e : Ending) (w' : World) : Prop :=
  ∃ A c, e = .returned (.slice A code.length c) ∧ OwnC w' w.heap.size w'.heap.size A c code ∧ Below w.heap.size w w'
/-- The same, and a number. -/
def RetCC (w : World) (code : List (List Int)) (n : Int) (e : Ending) (w' : World) : Prop :=
  ∃ A c, e = .returned (.tuple #[.slice A code.length c, .int .i64 n]) ∧ OwnC w' w.heap.size w'.heap.size A c code ∧ Below w.heap.size w w'

/-- The walk's law: out = append(out, row), the row one of the call's own, made since block top. -/
theorem wpList_append_code {ops : Array Oper} {rest : List Oper} {o : Oper} {a : Act} {w : World} {Q : Exit → Act → World → Prop} (hgd : o.guard = none) (s x : Operand)
    (ho : o.op = .call { callee := .builtin .append, args := #[s, x], argTypes := #[24, 24] })
    (base top : Nat) (A : Option Addr) (c : Nat) (code : List (List Int)) (hs : a.eval s = .slice A code.length c) (hown : OwnC w base top A c code)
    (B' : Option Addr) (d' : Nat) (hx : a.eval x = .slice B' 1 d') (B : Option Addr) (d : Nat) (xs : List Int) (hr : RG hdE w B' [⟨B, xs.length, d⟩]) (hrow : OwnI w top B d xs) (hbt : base ≤ top) (hts : top ≤ w.heap.size)
    (hlen : code.length ≤ 1048576) (code2 : List (List Int)) (hc2 : code2 = code ++ [xs])
    (h : ∀ A2 c2 w2, OwnC w2 base w2.heap.size A2 c2 code2 → w.grownBy w2 (blk A) → (blk A2 = blk A ∨ blk A2 = some w.heap.size) → wpList Tryz.prog ops Q rest (a.put o.dst (.slice A2 code2.length c2)) w2) : wpList Tryz.prog ops Q (o :: rest) a w := by
  obtain ⟨hs', h1, h2, h3, h4, h5⟩ := hown
  subst hc2
  refine wpList_append_row hdE hgd s x ho base A c hs' (by rw [hs, h3]) h1 B' d' [⟨B, xs.length, d⟩] hx hr (by simp; omega) (by simp [hdE]; omega) (by omega) _ rfl ?_
  intro A2 c2 w2 own2 hg2 hb2
  have hl : (hs' ++ [(⟨B, xs.length, d⟩ : Hd)]).length = (code ++ [xs]).length := by simp [h3]
  rw [hl]
  have hI : ∀ {base' : Nat} {A' : Option Addr} {c' : Nat} {ys : List Int}, OwnI w base' A' c' ys → blk A' = none ∨ blk A' ≠ blk A := fun hoo => by
    rw [← intE_own] at hoo
    exact Own.own_ne hoo h1 (by decide)
  refine h A2 c2 w2 ⟨hs' ++ [⟨B, xs.length, d⟩], own2, fun g hg => (own2.ge hg).2, hl, fun i h ys e1 e2 => ?_, fun i j h h' e1 e2 hij => ?_⟩ hg2 hb2
  · by_cases hi : i < hs'.length
    · rw [List.getElem?_append_left hi] at e1
      rw [List.getElem?_append_left (by omega)] at e2
      obtain ⟨m1, m2, m3⟩ := h4 i h ys e1 e2
      have m4 := m2.grown hg2 (hI m2)
      exact ⟨m1, m4, fun g hg => (m4.ge hg).2⟩
    · rw [List.getElem?_append_right (by omega)] at e1
      rw [List.getElem?_append_right (by omega)] at e2
      have hi0 : i - hs'.length = 0 := by
        have := (List.getElem?_eq_some_iff.1 e1).1
        simp at this
        omega
      rw [hi0] at e1
      rw [show i - code.length = 0 by omega] at e2
      simp at e1 e2
      subst e1 e2
      have m4 := (hrow.mono hbt).grown hg2 (hI hrow)
      exact ⟨rfl, m4, fun g hg => (m4.ge hg).2⟩
  · have hnew : ∀ (i : Nat) (h : Hd), hs'[i]? = some h → blk h.A = none ∨ blk h.A ≠ blk B := fun i h e1 => by
      have hi : i < hs'.length := (List.getElem?_eq_some_iff.1 e1).1
      obtain ⟨m1, m2, m3⟩ := h4 i h _ e1 (List.getElem?_eq_getElem (by omega))
      cases hb : blk h.A with
      | none => exact .inl rfl
      | some b =>
        refine .inr (fun e => ?_)
        have := (hrow.ge (g := b) e.symm).1
        have := m3 b hb
        omega
    by_cases hi : i < hs'.length
    · rw [List.getElem?_append_left hi] at e1
      by_cases hj : j < hs'.length
      · rw [List.getElem?_append_left hj] at e2
        exact h5 i j h h' e1 e2 hij
      · rw [List.getElem?_append_right (by omega)] at e2
        have hj0 : j - hs'.length = 0 := by
          have := (List.getElem?_eq_some_iff.1 e2).1
          simp at this
          omega
        rw [hj0] at e2
        simp at e2
        subst e2
        exact hnew i h e1
    · rw [List.getElem?_append_right (by omega)] at e1
      have hi0 : i - hs'.length = 0 := by
        have := (List.getElem?_eq_some_iff.1 e1).1
        simp at this
        omega
      rw [hi0] at e1
      simp at e1
      subst e1
      have hj : j < hs'.length := by
        rcases Nat.lt_or_ge j hs'.length with hj | hj
        · exact hj
        · have := (List.getElem?_eq_some_iff.1 e2).1
          simp at this
          omega
      rw [List.getElem?_append_left hj] at e2
      rcases hnew j h' e2 with e | e
      · cases hb : blk B with
        | none => exact .inl rfl
        | some b => exact .inr (fun e3 => by rw [e] at e3; cases e3)
      · exact .inr (fun e3 => e e3.symm)
end Go.Proofs.YtocellbhpjiioaaGreat

namespace Go.Proofs.YtocellbhpjiioaaGreat
open Go.RowKit
set_option linter.unusedVariables false

theorem below_drewN'' {B : Nat} {a b : World} (h : Below B a b) (n : Nat) : Below B a (b.drewN n) := ⟨h.os, h.tape, h.output, h.size, h.block⟩
def sumLen (code : List (List Int)) : Nat := (code.map List.length).sum
theorem sumLen_nil : sumLen [] = 0 := rfl
theorem sumLen_next {code : List (List Int)} {k : Nat} {xs : List Int} (h : code[k]? = some xs) : sumLen (code.take (k + 1)) = sumLen (code.take k) + xs.length := by
  unfold sumLen
  rw [List.take_add_one, h, List.map_append, List.sum_append]
  simp
theorem sumLen_take_le : ∀ (code : List (List Int)) (k : Nat), sumLen (code.take k) ≤ sumLen code
  | [], k => by simp [sumLen]
  | x :: t, 0 => by simp [sumLen]
  | x :: t, k + 1 => by
    have := sumLen_take_le t k
    unfold sumLen at this ⊢
    simp at this ⊢
    omega
theorem sumLen_row {code : List (List Int)} {k : Nat} {xs : List Int} (h : code[k]? = some xs) : xs.length ≤ sumLen code := by
  have h1 := sumLen_next h
  have h2 := sumLen_take_le code (k + 1)
  omega

theorem take_set_nextL {α : Type} {xs ys : List α} {k : Nat} {x : α} (hx : xs[k]? = some x) (hy : ys.length = xs.length) (ht : ys.take k = xs.take k) :
    (ys.set k x).take (k + 1) = xs.take (k + 1) := by
  have hk : k < xs.length := (List.getElem?_eq_some_iff.1 hx).1
  rw [List.take_add_one, List.take_add_one, List.getElem?_set_self (by omega), List.take_set_of_le (Nat.le_refl _), ht, hx]
/-- What is known of a slice of slices that came in. -/
def ArgC (w : World) (A : Option Addr) (c : Nat) (code : List (List Int)) : Prop := code.length ≤ c ∧ c ≤ 9223372036854775807 ∧ RC w w.heap.size A code ∧ ∀ xs ∈ code, ∀ x ∈ xs, I64 x

theorem run_make_hd (n : Nat) (hn : n ≤ 1048576) (W : World) :
    (Instr.makeSlice 24 (.int .i64 (n : Int)) (.int .i64 (n : Int))).run Tryz.prog W = .ok (.slice (some ⟨W.heap.size, 0, none⟩) n n) (W.alloc (.cells (madeCells hdE.z.cells (n * hdE.size)) 65)) :=
  hdE.run_make n (by simp [hdE]; omega) (by omega) W

theorem ne_lenL {α : Type} [DecidableEq α] {xs ys : List α} (h : xs.length ≠ ys.length) : decide (xs = ys) = false := by
  apply decide_eq_false
  intro e
  exact h (by rw [e])
theorem ne_atL {α : Type} [DecidableEq α] {xs ys : List α} {k : Nat} {x y : α} (hx : xs[k]? = some x) (hy : ys[k]? = some y) (h : x ≠ y) : decide (xs = ys) = false := by
  apply decide_eq_false
  intro e
  rw [e, hy] at hx
  injection hx with hx
  exact h hx.symm
theorem take_eq_nextL {α : Type} {xs ys : List α} {k : Nat} {x : α} (hx : xs[k]? = some x) (hy : ys[k]? = some x) (h : xs.take k = ys.take k) : xs.take (k + 1) = ys.take (k + 1) := by
  rw [List.take_add_one, List.take_add_one, h, hx, hy]

/-- the code with its first j rows marked -/
def markTo (k : Int) (code : List (List Int)) (j : Nat) : List (List Int) := code.mapIdx fun i xs => if i < j then marks (k + sumLen (code.take i)) xs.length else xs
def marksC (k : Int) (code : List (List Int)) : List (List Int) := markTo k code code.length
theorem markTo_length (k : Int) (code : List (List Int)) (j : Nat) : (markTo k code j).length = code.length := by simp [markTo]
theorem markTo_zero (k : Int) (code : List (List Int)) : markTo k code 0 = code := by
  apply List.ext_getElem?
  intro i
  simp only [markTo, List.getElem?_mapIdx]
  cases code[i]? with
  | none => rfl
  | some p => simp
theorem markTo_at {k : Int} {code : List (List Int)} {j : Nat} {xs : List Int} (h : code[j]? = some xs) : (markTo k code j)[j]? = some xs := by
  simp only [markTo, List.getElem?_mapIdx, h, Option.map_some]
  rw [if_neg (by omega)]
theorem markTo_set {k : Int} {code : List (List Int)} {j : Nat} {xs : List Int} (h : code[j]? = some xs) : (markTo k code j).set j (marks (k + sumLen (code.take j)) xs.length) = markTo k code (j + 1) := by
  have hj := (List.getElem?_eq_some_iff.1 h).1
  apply List.ext_getElem?
  intro i
  by_cases hij : j = i
  · subst hij
    rw [List.getElem?_set_self (by rw [markTo_length]; exact hj)]
    simp only [markTo, List.getElem?_mapIdx, h, Option.map_some]
    rw [if_pos (by omega)]
  · rw [List.getElem?_set_ne hij]
    simp only [markTo, List.getElem?_mapIdx]
    congr 1
    funext ys
    by_cases h1 : i < j
    · rw [if_pos h1, if_pos (by omega)]
    · rw [if_neg h1, if_neg (by omega)]
theorem marksC_at {k : Int} {code : List (List Int)} {j : Nat} {xs : List Int} (h : code[j]? = some xs) : (marksC k code)[j]? = some (marks (k + sumLen (code.take j)) xs.length) := by
  have hj := (List.getElem?_eq_some_iff.1 h).1
  simp only [marksC, markTo, List.getElem?_mapIdx, h, Option.map_some]
  rw [if_pos hj]

end Go.Proofs.YtocellbhpjiioaaGreat

namespace Go.Proofs.YtocellbhpjiioaaGreat
open Go.RowKit
set_option linter.unusedVariables false

section
variable {w w' : World} {base top : Nat} {A : Option Addr} {c : Nat} {code : List (List Int)}
theorem OwnI.ne_hd {B : Option Addr} {d : Nat} {xs : List Int} {hs : List Hd} {b2 : Nat} (ho : OwnI w base B d xs) (h : Own hdE w b2 A c hs) : blk B = none ∨ blk B ≠ blk A := by
  rw [← intE_own] at ho
  exact Own.own_ne ho h (by decide)
/-- another row put in the place of row k -/
theorem OwnC.swapRow (h : OwnC w base top A c code) (ht : top ≤ w.heap.size) {k : Nat} (hk : k < code.length) :
    ∃ g B d xs, A = some ⟨g, 0, none⟩ ∧ base ≤ g ∧ g < top ∧ code[k]? = some xs ∧ w.cell? ⟨g, k, none⟩ = some (.slice B xs.length d) ∧ OwnI w base B d xs ∧ (∀ q, blk B = some q → q < top) ∧
      ∀ (w1 : World) (B' : Option Addr) (d' : Nat) (ys : List Int), w.grownBy w1 (blk B) → OwnI w1 base B' d' ys → (blk B' = blk B ∨ ∀ q, blk B' = some q → w.heap.size ≤ q) →
        w1.cell? ⟨g, k, none⟩ = some (.slice B xs.length d) ∧ w1.frozen? ⟨g, k, none⟩ = false ∧ OwnC (w1.setCell ⟨g, k, none⟩ (.slice B' ys.length d')) base w1.heap.size A c (code.set k ys) := by
  obtain ⟨hs, h1, h2, h3, h4, h5⟩ := h
  obtain ⟨g, hd, e, hgb, hgs, hx, hc, hf⟩ := h1.row (k := k) (by omega)
  have hxs : code[k]? = some code[k] := List.getElem?_eq_getElem hk
  obtain ⟨g1, g2, g3⟩ := h4 k hd _ hx hxs
  have hc0 : w.cell? ⟨g, k, none⟩ = some (.slice hd.A code[k].length hd.c) := by
    have := hc 0 _ rfl
    rw [← g1]
    simpa [hdE] using this
  subst e
  refine ⟨g, hd.A, hd.c, code[k], rfl, hgb, h2 g rfl, hxs, hc0, g2, g3, fun w1 B' d' ys hg hy hB => ?_⟩
  have h1' := h1.grown hg (by
    rcases g2.ne_hd h1 with h | h
    · exact .inr (by rw [h]; simp [blk])
    · exact .inr (fun e => h e.symm))
  obtain ⟨g', hd', e', _, _, hx', hc', hf'⟩ := h1'.row (k := k) (by omega)
  injection e' with e'
  injection e' with e'
  subst e'
  rw [hx] at hx'
  injection hx' with hx'
  subst hx'
  have hc1 : w1.cell? ⟨g, k, none⟩ = some (.slice hd.A code[k].length hd.c) := by
    have := hc' 0 _ rfl
    rw [← g1]
    simpa [hdE] using this
  have hsz := hg.size
  refine ⟨hc1, hf' _, hs.set k ⟨B', ys.length, d'⟩, ?_, fun q hq => ?_, by rw [List.length_set, List.length_set]; exact h3, fun i h xs e1 e2 => ?_, fun i j h h' e1 e2 hij => ?_⟩
  · have := (h1'.put (k := k) (j := 0) (x := hd) (y := ⟨B', ys.length, d'⟩) (u := .slice B' ys.length d') hx (by simp [hdE]) rfl).1
    simpa [hdE] using this
  · have := h2 q hq
    omega
  · by_cases hik : i = k
    · subst hik
      rw [List.getElem?_set_self (by omega)] at e1
      rw [List.getElem?_set_self hk] at e2
      injection e1 with e1
      injection e2 with e2
      subst e1 e2
      refine ⟨rfl, hy.keep (fun b _ hb => ?_), fun q hq => (hy.ge hq).2⟩
      refine Below.heap_setCell w1 ⟨g, i, none⟩ _ b (fun e => ?_)
      rcases hy.ne_hd h1' with h | h
      · rw [h] at hb; cases hb
      · exact h (by rw [hb]; show some b = some g; rw [e])
    · rw [List.getElem?_set_ne (by omega)] at e1 e2
      obtain ⟨q1, q2, q3⟩ := h4 i h xs e1 e2
      have q2' := q2.grown hg (by
        rcases h5 i k h hd e1 hx hik with h | h
        · exact .inl h
        · exact .inr h)
      refine ⟨q1, q2'.keep (fun b _ hb => ?_), fun q hq => by have := q3 q hq; omega⟩
      refine Below.heap_setCell w1 ⟨g, k, none⟩ _ b (fun e => ?_)
      rcases q2'.ne_hd h1' with h | h
      · rw [h] at hb; cases hb
      · exact h (by rw [hb]; show some b = some g; rw [e])
  · have key : ∀ (i : Nat) (h : Hd), i ≠ k → hs[i]? = some h → (blk h.A = none ∨ blk h.A ≠ blk B') ∧ (blk B' = none ∨ blk B' ≠ blk h.A) := fun i h hik e1 => by
      have hil := (List.getElem?_eq_some_iff.1 e1).1
      obtain ⟨q1, q2, q3⟩ := h4 i h _ e1 (List.getElem?_eq_getElem (show i < code.length by omega))
      rcases hB with hB | hB
      · rw [hB]
        refine ⟨h5 i k h hd e1 hx hik, ?_⟩
        exact h5 k i hd h hx e1 (Ne.symm hik)
      · refine ⟨?_, ?_⟩
        · by_cases hn : blk h.A = none
          · exact .inl hn
          · refine .inr (fun e => ?_)
            obtain ⟨q, hq⟩ := Option.ne_none_iff_exists'.1 hn
            have := q3 q hq
            have := hB q (e ▸ hq)
            omega
        · by_cases hn : blk B' = none
          · exact .inl hn
          · refine .inr (fun e => ?_)
            obtain ⟨q, hq⟩ := Option.ne_none_iff_exists'.1 hn
            have := q3 q (e ▸ hq)
            have := hB q hq
            omega
    by_cases hik : i = k
    · subst hik
      rw [List.getElem?_set_self (by omega)] at e1
      injection e1 with e1
      subst e1
      rw [List.getElem?_set_ne hij] at e2
      exact (key j h' (Ne.symm hij) e2).2
    · rw [List.getElem?_set_ne (by omega)] at e1
      by_cases hjk : j = k
      · subst hjk
        rw [List.getElem?_set_self (by omega)] at e2
        injection e2 with e2
        subst e2
        exact (key i h hik e1).1
      · rw [List.getElem?_set_ne (by omega)] at e2
        exact h5 i j h h' e1 e2 hij
end
/-- A code that reads, all of it from block base on. -/
def Dr (w : World) (base : Nat) (A : Option Addr) (c : Nat) (code : List (List Int)) : Prop :=
  ∃ hs : List Hd, RG hdE w A hs ∧ (∀ g, blk A = some g → 0 < hs.length → base ≤ g ∧ g < w.heap.size) ∧ hs.length = code.length ∧ (code.length ≤ c ∧ c ≤ 9223372036854775807) ∧
    ∀ (i : Nat) (h : Hd) (xs : List Int), hs[i]? = some h → code[i]? = some xs → h.n = xs.length ∧ xs.length ≤ h.c ∧ h.c ≤ 9223372036854775807 ∧ RI w h.A xs ∧ ∀ g, blk h.A = some g → 0 < xs.length → base ≤ g ∧ g < w.heap.size
section
variable {w w' : World} {base : Nat} {A : Option Addr} {c : Nat} {code : List (List Int)}
theorem Dr.keep (h : Dr w base A c code) (hz : w.heap.size ≤ w'.heap.size) (hk : ∀ b, base ≤ b → b < w.heap.size → w'.heap[b]? = w.heap[b]?) : Dr w' base A c code := by
  obtain ⟨hs, h1, h2, h3, h4, h5⟩ := h
  refine ⟨hs, fun hn => ?_, fun g hg hn => by have := h2 g hg hn; omega, h3, h4, fun i h xs e1 e2 => ?_⟩
  · have hp : 0 < hs.length := by rw [hdE.flen] at hn; exact Nat.pos_of_mul_pos_right hn
    exact RG.keep h1 (fun b hb hbb => hk b (h2 b hbb hp).1 hb) hn
  · obtain ⟨g1, g2, g3, g4, g5⟩ := h5 i h xs e1 e2
    refine ⟨g1, g2, g3, fun hn => ?_, fun g hg hn => by have := g5 g hg hn; omega⟩
    exact Rd.keep g4 (fun b hb hbb => hk b (g5 b hbb (by simpa using hn)).1 hb) hn
theorem Dr.below (h : Dr w base A c code) (hb : Below w.heap.size w w') : Dr w' base A c code := h.keep hb.size fun b _ hb2 => hb.block b hb2
theorem Dr.alloc (h : Dr w base A c code) (o : Obj) : Dr (w.alloc o) base A c code := h.below ((Below.refl _ _).alloc (Nat.le_refl _) o)
theorem Dr.drew (h : Dr w base A c code) : Dr w.drew base A c code := h
theorem Dr.drewN (h : Dr w base A c code) (n : Nat) : Dr (w.drewN n) base A c code := h
theorem Dr.setLow (h : Dr w base A c code) {p : Addr} (hp : p.block < base) (u : Value) : Dr (w.setCell p u) base A c code := h.keep (by simp) fun b h1 h2 => Below.heap_setCell w p u b (by omega)
theorem Dr.src {b : Nat} (h : Dr w base A c code) (hg : w.grownBy w' (some b)) (hb : b < base) : Dr w' base A c code := h.keep hg.size fun q h1 h2 => hg.block q h2 (fun e => by injection e with e; omega)
theorem Dr.mono {base' : Nat} (h : Dr w base A c code) (hb : base' ≤ base) : Dr w base' A c code := by
  obtain ⟨hs, h1, h2, h3, h4, h5⟩ := h
  exact ⟨hs, h1, fun g hg hn => by have := h2 g hg hn; omega, h3, h4, fun i h xs e1 e2 => by
    obtain ⟨g1, g2, g3, g4, g5⟩ := h5 i h xs e1 e2
    exact ⟨g1, g2, g3, g4, fun g hg hn => by have := g5 g hg hn; omega⟩⟩
theorem Dr.rc (h : Dr w base A c code) : RC w w.heap.size A code := by
  obtain ⟨hs, h1, h2, h3, h4, h5⟩ := h
  exact ⟨hs, h1, fun g hg hn => (h2 g hg hn).2, h3, fun i h xs e1 e2 => by
    obtain ⟨g1, g2, g3, g4, g5⟩ := h5 i h xs e1 e2
    exact ⟨g1, g2, g3, g4, fun g hg hn => (g5 g hg hn).2⟩⟩
theorem Dr.cap_ (h : Dr w base A c code) : code.length ≤ c ∧ c ≤ 9223372036854775807 := by
  obtain ⟨hs, h1, h2, h3, h4, h5⟩ := h
  exact h4
theorem OwnC.dr {top : Nat} (h : OwnC w base top A c code) (ht : top ≤ w.heap.size) : Dr w base A c code := by
  have hcap := h.cap_
  obtain ⟨hs, h1, h2, h3, h4, h5⟩ := h
  refine ⟨hs, h1.rd, fun g hg _ => ⟨(h1.ge hg).1, by have := h2 g hg; omega⟩, h3, hcap, fun i h xs e1 e2 => ?_⟩
  obtain ⟨g1, g2, g3⟩ := h4 i h xs e1 e2
  have := g2.cap
  exact ⟨g1, this.1, by simpa [maxLen] using this.2, g2.rd, fun g hg _ => g2.ge hg⟩
end
section
variable {w w' : World} {base top b : Nat} {A B : Option Addr} {c d : Nat} {code : List (List Int)} {ys : List Int}
theorem OwnC.src (h : OwnC w base top A c code) (hg : w.grownBy w' (some b)) (hb : b < base) (ht : top ≤ w.heap.size) : OwnC w' base top A c code :=
  h.keep fun q h1 h2 => hg.block q (by omega) (fun e => by injection e with e; omega)
theorem OwnI.src (h : OwnI w base B d ys) (hg : w.grownBy w' (some b)) (hb : b < base) : OwnI w' base B d ys :=
  h.keep fun q h1 h2 => hg.block q h1 (fun e => by injection e with e; have := (h.ge h2).1; omega)
end
set_option maxHeartbeats 4000000 in
theorem pickG_any (b : Nat) (A : Option Addr) (c : Nat) (xs : List Int) (K : Nat) (n : Int) (w : World) (h : Sr w b A c xs K) (hK : K ≤ 1000000) (hx : ∀ x ∈ xs, 0 ≤ x ∧ x ≤ 255) (hn : xs.length ≤ 1048576) (h1 : 0 < n) (h2 : n ≤ 200) :
    Calls Tryz.prog 32 #[.pointer (some ⟨b, 0, none⟩), .int .i64 n] w fun e w' => ∃ x : Nat, e = .returned (.int .i64 (x : Int)) ∧ (x : Int) < n ∧ Sr w' b A c xs (K + 1) ∧ w.grownBy w' (some b) := by
  by_cases hn1 : 1 < n
  · refine (pick_any b A c xs K n w h hK hx hn hn1 h2).mono ?_
    rintro e w1 ⟨x, rfl, h0, h3, hs, hg⟩
    exact ⟨x.toNat, by rw [Int.toNat_of_nonneg h0], by omega, hs, hg⟩
  · have d1 : n ≤ 1 := by omega
    go_enter Tryz.func32, Tryz.ntmps32
    go_wp2_with fail
    go_ret
    exact ⟨0, rfl, h1, h.more (by omega), gr_refl _ _⟩
set_option maxHeartbeats 4000000 in
theorem one_any (b : Nat) (A : Option Addr) (c : Nat) (xs : List Int) (K : Nat) (n : Int) (w : World) (h : Sr w b A c xs K) (hK : K ≤ 1000000) (hx : ∀ x ∈ xs, 0 ≤ x ∧ x ≤ 255) (hn : xs.length ≤ 1048576) (h1 : 1 < n) (h2 : n ≤ 200) :
    Calls Tryz.prog 36 #[.pointer (some ⟨b, 0, none⟩), .int .i64 n] w fun e w' => ∃ v : Bool, e = .returned (.bool v) ∧ Sr w' b A c xs (K + 1) ∧ w.grownBy w' (some b) := by
  have HP := hide (pick_any b A c xs K n w h hK hx hn h1 h2)
  go_enter Tryz.func36, Tryz.ntmps36
  go_wp2_with fail
  refine HP.out.mono ?_
  rintro e w1 ⟨x, rfl, h0, h3, hs, hg⟩
  go_wp2_with fail
  go_ret
  exact ⟨_, rfl, hs, hg⟩
set_option maxHeartbeats 4000000 in
theorem among_any (b : Nat) (A : Option Addr) (c : Nat) (xs : List Int) (K : Nat) (B : Option Addr) (d : Nat) (ys : List Int) (w : World) (h : Sr w b A c xs K) (hK : K ≤ 1000000) (hx : ∀ x ∈ xs, 0 ≤ x ∧ x ≤ 255) (hn : xs.length ≤ 1048576) (hy : RI w B ys) (hyn : ∀ g, blk B = some g → g ≠ b) (h1 : 0 < ys.length) (h2 : ys.length ≤ 200) :
    Calls Tryz.prog 64 #[.pointer (some ⟨b, 0, none⟩), .slice B ys.length d] w fun e w' => ∃ x : Int, e = .returned (.int .i64 x) ∧ x ∈ ys ∧ Sr w' b A c xs (K + 1) ∧ w.grownBy w' (some b) := by
  have HP := hide (pickG_any b A c xs K (ys.length : Int) w h hK hx hn (by omega) (by omega))
  have HY := hide hy
  have HYN := hide hyn
  go_enter Tryz.func64, Tryz.ntmps64
  go_wp2_with fail
  refine HP.out.mono ?_
  rintro e w1 ⟨x, rfl, h3, hs, hg⟩
  have hx2 : x < ys.length := by omega
  obtain ⟨g, off, v, hB, hgb, hv, hc⟩ := (RI.grown HY.out hg (by
    by_cases hbn : blk B = none
    · exact .inl hbn
    · obtain ⟨q, hq⟩ := Option.ne_none_iff_exists'.1 hbn
      exact .inr (fun e => HYN.out q hq (by rw [hq] at e; injection e)))).at_ hx2
  subst hB
  go_wp2_with fail
  go_ret
  exact ⟨v, rfl, List.mem_of_getElem? hv, hs, hg⟩
end Go.Proofs.YtocellbhpjiioaaGreat
