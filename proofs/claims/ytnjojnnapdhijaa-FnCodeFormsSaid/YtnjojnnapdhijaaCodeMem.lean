/-
  Words for slices of slices of ints: what they read as, rows of the call's own, and what may have been written. Conditions: none.
-/
import Derived.Test.YtnjojnnapdhijaaGen
namespace Go.Proofs.Ytnjojnnapdhijaa
open Go.RowKit
set_option linter.unusedVariables false

/-- What was there has turned at most from block lo on and below block hi. -/
structure Marked (w w' : World) (lo hi : Nat) : Prop where
  os : w'.os = w.os
  tape : w'.tape = w.tape
  output : w'.output = w.output
  size : w.heap.size ≤ w'.heap.size
  block : ∀ b, b < w.heap.size → (b < lo ∨ hi ≤ b) → w'.heap[b]? = w.heap[b]?
section
variable {w w' w0 : World} {lo hi : Nat}
theorem Marked.refl (w : World) (lo hi : Nat) : Marked w w lo hi := ⟨rfl, rfl, rfl, Nat.le_refl _, fun _ _ _ => rfl⟩
theorem Marked.trans {a b c : World} (h : Marked a b lo hi) (k : Marked b c lo hi) : Marked a c lo hi :=
  ⟨k.os.trans h.os, k.tape.trans h.tape, k.output.trans h.output, Nat.le_trans h.size k.size, fun i hi' hn => (k.block i (Nat.lt_of_lt_of_le hi' h.size) hn).trans (h.block i hi' hn)⟩
theorem Marked.of_grown {row : Option Nat} (hg : w.grownBy w' row) (hr : ∀ g, row = some g → lo ≤ g ∧ g < hi) : Marked w w' lo hi :=
  ⟨hg.os, hg.tape, hg.output, hg.size, fun b hb hn => hg.block b hb (fun e => by have := hr b e.symm; omega)⟩
theorem Marked.of_below (hb : Below w.heap.size w w') (lo hi : Nat) : Marked w w' lo hi := ⟨hb.os, hb.tape, hb.output, hb.size, fun b h _ => hb.block b h⟩
theorem Below.marked {B : Nat} (h : Below B w0 w) (hM : Marked w w' lo hi) (hB : B ≤ w.heap.size) (hl : B ≤ lo) : Below B w0 w' :=
  ⟨hM.os.trans h.os, hM.tape.trans h.tape, hM.output.trans h.output, Nat.le_trans h.size hM.size, fun k hk => (hM.block k (by omega) (.inl (by omega))).trans (h.block k hk)⟩
theorem Bx.marked {b : Nat} {t : TypeId} {cs : Array Value} (h : Bx w b t cs) (hM : Marked w w' lo hi) (hb : b < lo ∨ hi ≤ b) : Bx w' b t cs := (hM.block b h.lt hb).trans h
end

/-- The slice that begins at A reads as the ints xs, and lies below block top. -/
def RIT (w : World) (top : Nat) (A : Option Addr) (xs : List Int) : Prop := RI w A xs ∧ ∀ g, blk A = some g → 0 < xs.length → g < top
section
variable {w w' : World} {top : Nat} {A : Option Addr} {xs : List Int}
theorem RIT.keep (h : RIT w top A xs) (hk : ∀ b, b < top → w'.heap[b]? = w.heap[b]?) : RIT w' top A xs :=
  ⟨fun hn => Rd.keep h.1 (fun b _ hb => hk b (h.2 b hb (by simpa using hn))) hn, h.2⟩
theorem RIT.below (h : RIT w top A xs) (hb : Below w.heap.size w w') : RIT w' top A xs := ⟨h.1.below hb, h.2⟩
theorem RIT.mono {top' : Nat} (h : RIT w top A xs) (ht : top ≤ top') : RIT w top' A xs := ⟨h.1, fun g hg hn => Nat.lt_of_lt_of_le (h.2 g hg hn) ht⟩
theorem RIT.of (h : RI w A xs) : RIT w w.heap.size A xs := ⟨h, fun g hg hn => h.lt hn hg⟩
end

/-- The headers hs read as the rows of a code. -/
def RowsC (w : World) (top : Nat) (hs : List Hd) (code : List (List Int)) : Prop :=
  hs.length = code.length ∧ ∀ (i : Nat) (h : Hd) (xs : List Int), hs[i]? = some h → code[i]? = some xs → h.n = xs.length ∧ xs.length ≤ h.c ∧ h.c ≤ 9223372036854775807 ∧ RIT w top h.A xs
/-- The slice of slices that begins at A reads as a code, all below block top. -/
def RC (w : World) (top : Nat) (A : Option Addr) (code : List (List Int)) : Prop :=
  ∃ hs, RG hdE w A hs ∧ (∀ g, blk A = some g → 0 < hs.length → g < top) ∧ RowsC w top hs code
section
variable {w w' : World} {top : Nat} {A : Option Addr} {code : List (List Int)}
theorem RC.keep (h : RC w top A code) (hk : ∀ b, b < top → w'.heap[b]? = w.heap[b]?) : RC w' top A code := by
  obtain ⟨hs, h1, h2, h3, h4⟩ := h
  refine ⟨hs, fun hn => ?_, h2, h3, fun i h xs e1 e2 => ?_⟩
  · exact RG.keep h1 (fun b _ hb => hk b (h2 b hb (by rw [hdE.flen] at hn; exact Nat.pos_of_mul_pos_right hn))) hn
  · obtain ⟨g1, g2, g3, g4⟩ := h4 i h xs e1 e2
    exact ⟨g1, g2, g3, g4.keep hk⟩
theorem RC.below (h : RC w top A code) (hb : Below w.heap.size w w') : RC w' top A code := by
  obtain ⟨hs, h1, h2, h3, h4⟩ := h
  refine ⟨hs, h1.below hb, h2, h3, fun i h xs e1 e2 => ?_⟩
  obtain ⟨g1, g2, g3, g4⟩ := h4 i h xs e1 e2
  exact ⟨g1, g2, g3, g4.below hb⟩
theorem RC.alloc (h : RC w top A code) (o : Obj) : RC (w.alloc o) top A code := h.below ((Below.refl _ _).alloc (Nat.le_refl _) o)
theorem RC.drew (h : RC w top A code) : RC w.drew top A code := h
theorem RC.drewN (h : RC w top A code) (n : Nat) : RC (w.drewN n) top A code := h
theorem RC.mono {top' : Nat} (h : RC w top A code) (ht : top ≤ top') : RC w top' A code := by
  obtain ⟨hs, h1, h2, h3, h4⟩ := h
  refine ⟨hs, h1, fun g hg hn => Nat.lt_of_lt_of_le (h2 g hg hn) ht, h3, fun i h xs e1 e2 => ?_⟩
  obtain ⟨g1, g2, g3, g4⟩ := h4 i h xs e1 e2
  exact ⟨g1, g2, g3, g4.mono ht⟩
theorem RC.marked {lo hi : Nat} (h : RC w top A code) (hM : Marked w w' lo hi) (ht : top ≤ lo) (hs : top ≤ w.heap.size) : RC w' top A code :=
  h.keep fun b hb => hM.block b (by omega) (.inl (by omega))
/-- A row at hand. -/
theorem RC.row (h : RC w top A code) {k : Nat} (hk : k < code.length) :
    ∃ b off B d xs, A = some ⟨b, off, none⟩ ∧ b < w.heap.size ∧ code[k]? = some xs ∧ w.cell? ⟨b, off + k, none⟩ = some (.slice B xs.length d) ∧ xs.length ≤ d ∧ d ≤ 9223372036854775807 ∧ RI w B xs := by
  obtain ⟨hs, h1, h2, h3, h4⟩ := h
  obtain ⟨b, off, hd, e, hb, hx, hc⟩ := h1.row (k := k) (by omega)
  have hxs : code[k]? = some code[k] := List.getElem?_eq_getElem hk
  obtain ⟨g1, g2, g3, g4⟩ := h4 k hd _ hx hxs
  have hc0 := hc 0 _ rfl
  refine ⟨b, off, hd.A, hd.c, code[k], e, hb, hxs, ?_, g2, g3, g4.1⟩
  rw [← g1]
  simpa [hdE] using hc0
theorem RC.lt (h : RC w top A code) (hn : 0 < code.length) {g : Nat} (hg : blk A = some g) : g < w.heap.size := by
  obtain ⟨hs, h1, h2, h3, h4⟩ := h
  exact h1.lt (by omega) hg
end

/-- The headers hs are those of rows of the call's own, each in a block of its own. -/
def OwnRows (w : World) (base top : Nat) (hs : List Hd) (code : List (List Int)) : Prop :=
  hs.length = code.length ∧ (∀ (i : Nat) (h : Hd) (xs : List Int), hs[i]? = some h → code[i]? = some xs → h.n = xs.length ∧ OwnI w base h.A h.c xs ∧ ∀ g, blk h.A = some g → g < top) ∧
  ∀ (i j : Nat) (h h' : Hd), hs[i]? = some h → hs[j]? = some h' → i ≠ j → blk h.A = none ∨ blk h.A ≠ blk h'.A
/-- The slice of slices (A, code.length, c) is one that the call made, all from block base on and below block top. -/
def OwnC (w : World) (base top : Nat) (A : Option Addr) (c : Nat) (code : List (List Int)) : Prop :=
  ∃ hs, Own hdE w base A c hs ∧ (∀ g, blk A = some g → g < top) ∧ OwnRows w base top hs code
section
variable {w w' : World} {base top : Nat} {A : Option Addr} {c : Nat} {code : List (List Int)}
theorem OwnC.keep (h : OwnC w base top A c code) (hk : ∀ b, base ≤ b → b < top → w'.heap[b]? = w.heap[b]?) : OwnC w' base top A c code := by
  obtain ⟨hs, h1, h2, h3, h4, h5⟩ := h
  refine ⟨hs, h1.keep (fun b _ hb => hk b (h1.ge hb).1 (h2 b hb)), h2, h3, fun i h xs e1 e2 => ?_, h5⟩
  obtain ⟨g1, g2, g3⟩ := h4 i h xs e1 e2
  exact ⟨g1, g2.keep (fun b _ hb => hk b (g2.ge hb).1 (g3 b hb)), g3⟩
theorem OwnC.below (h : OwnC w base top A c code) (hb : Below w.heap.size w w') : OwnC w' base top A c code := by
  obtain ⟨hs, h1, h2, h3, h4, h5⟩ := h
  refine ⟨hs, h1.below hb, h2, h3, fun i h xs e1 e2 => ?_, h5⟩
  obtain ⟨g1, g2, g3⟩ := h4 i h xs e1 e2
  exact ⟨g1, g2.below hb, g3⟩
theorem OwnC.alloc (h : OwnC w base top A c code) (o : Obj) : OwnC (w.alloc o) base top A c code := h.below ((Below.refl _ _).alloc (Nat.le_refl _) o)
theorem OwnC.drew (h : OwnC w base top A c code) : OwnC w.drew base top A c code := h
theorem OwnC.drewN (h : OwnC w base top A c code) (n : Nat) : OwnC (w.drewN n) base top A c code := h
theorem OwnC.mono {base' top' : Nat} (h : OwnC w base top A c code) (hb : base' ≤ base) (ht : top ≤ top') : OwnC w base' top' A c code := by
  obtain ⟨hs, h1, h2, h3, h4, h5⟩ := h
  refine ⟨hs, h1.mono hb, fun g hg => Nat.lt_of_lt_of_le (h2 g hg) ht, h3, fun i h xs e1 e2 => ?_, h5⟩
  obtain ⟨g1, g2, g3⟩ := h4 i h xs e1 e2
  exact ⟨g1, g2.mono hb, fun g hg => Nat.lt_of_lt_of_le (g3 g hg) ht⟩
theorem OwnC.marked {lo hi : Nat} (h : OwnC w base top A c code) (hM : Marked w w' lo hi) (ht : top ≤ lo ∨ hi ≤ base) (hs : top ≤ w.heap.size) : OwnC w' base top A c code :=
  h.keep fun b h1 h2 => hM.block b (by omega) (by omega)
theorem OwnC.rd (h : OwnC w base top A c code) : RC w top A code := by
  obtain ⟨hs, h1, h2, h3, h4, h5⟩ := h
  refine ⟨hs, h1.rd, fun g hg _ => h2 g hg, h3, fun i h xs e1 e2 => ?_⟩
  obtain ⟨g1, g2, g3⟩ := h4 i h xs e1 e2
  have := g2.cap
  exact ⟨g1, this.1, by simpa [maxLen] using this.2, g2.rd, fun g hg _ => g3 g hg⟩
theorem OwnC.cap_ (h : OwnC w base top A c code) : code.length ≤ c ∧ c ≤ 9223372036854775807 := by
  obtain ⟨hs, h1, h2, h3, h4, h5⟩ := h
  have := h1.cap_
  omega
theorem OwnC.nil (w : World) (base top : Nat) : OwnC w base top none 0 [] := ⟨[], Own.nil w base, fun g hg => by simp [blk] at hg, rfl, fun i h xs e1 e2 => by simp at e2, fun i j h h' e1 => by simp at e1⟩
theorem OwnC.empty_ (w : World) {base : Nat} (n : Nat) (hn : n = w.heap.size) (hb : base ≤ w.heap.size) : OwnC (w.alloc (.cells #[] 34)) base (n + 1) (some ⟨n, 0, none⟩) 0 [] := by
  subst hn
  exact ⟨[], Own.new (E := hdE) w [] #[] rfl hb (by simp), fun g hg => by have := blk_inj hg; omega, rfl, fun i h xs e1 e2 => by simp at e2, fun i j h h' e1 => by simp at e1⟩
theorem OwnC.setFar {p : Addr} (h : OwnC w base top A c code) (hp : p.block < base ∨ top ≤ p.block) (u : Value) : OwnC (w.setCell p u) base top A c code :=
  h.keep fun b h1 h2 => Below.heap_setCell w p u b (by omega)
/-- The block of headers at hand. -/
theorem OwnC.row (h : OwnC w base top A c code) {k : Nat} (hk : k < code.length) :
    ∃ g B d xs, A = some ⟨g, 0, none⟩ ∧ base ≤ g ∧ g < top ∧ g < w.heap.size ∧ code[k]? = some xs ∧ w.cell? ⟨g, k, none⟩ = some (.slice B xs.length d) ∧ w.frozen? ⟨g, k, none⟩ = false ∧ OwnI w base B d xs ∧ (∀ b, blk B = some b → b < top) ∧
      (∀ w' ys, ys.length = xs.length → OwnI w' base B d ys → w.grownBy w' (blk B) → OwnC w' base top A c (code.set k ys)) := by
  obtain ⟨hs, h1, h2, h3, h4, h5⟩ := h
  obtain ⟨g, hd, e, hgb, hgs, hx, hc, hf⟩ := h1.row (k := k) (by omega)
  have hxs : code[k]? = some code[k] := List.getElem?_eq_getElem hk
  obtain ⟨g1, g2, g3⟩ := h4 k hd _ hx hxs
  have hc0 := hc 0 _ rfl
  subst e
  refine ⟨g, hd.A, hd.c, code[k], rfl, hgb, h2 g rfl, hgs, hxs, ?_, hf _, g2, g3, fun w' ys hl ho hg => ?_⟩
  · rw [← g1]
    simpa [hdE] using hc0
  · refine ⟨hs, ?_, h2, by rw [List.length_set]; exact h3, fun i h xs e1 e2 => ?_, h5⟩
    · refine h1.grown hg ?_
      rw [← intE_own] at g2
      exact Own.own_ne h1 g2 (by decide)
    · by_cases hik : i = k
      · subst hik
        rw [hx] at e1
        injection e1 with e1
        subst e1
        rw [List.getElem?_set_self hk] at e2
        injection e2 with e2
        subst e2
        exact ⟨by omega, ho, g3⟩
      · rw [List.getElem?_set_ne (Ne.symm hik)] at e2
        obtain ⟨m1, m2, m3⟩ := h4 i h xs e1 e2
        exact ⟨m1, m2.grown hg (h5 i k h hd e1 hx hik), m3⟩
/-- A new row's header laid into the block of headers. -/
theorem OwnC.put {g : Nat} {B : Option Addr} {d : Nat} {xs : List Int} (h : OwnC w base top (some ⟨g, 0, none⟩) c code) {k : Nat} (hk : k < code.length) (hrow : OwnI w top B d xs) (hbt : base ≤ top) :
    OwnC (w.setCell ⟨g, k, none⟩ (.slice B xs.length d)) base w.heap.size (some ⟨g, 0, none⟩) c (code.set k xs) ∧ w.grownBy (w.setCell ⟨g, k, none⟩ (.slice B xs.length d)) (some g) := by
  obtain ⟨hs, h1, h2, h3, h4, h5⟩ := h
  have hx : hs[k]? = some hs[k] := List.getElem?_eq_getElem (by omega)
  have hput := h1.put (k := k) (j := 0) (x := hs[k]) (y := ⟨B, xs.length, d⟩) (u := .slice B xs.length d) hx (by simp [hdE]) rfl
  have e0 : k * hdE.size + 0 = k := by simp [hdE]
  rw [e0] at hput
  have hgt := h2 g rfl
  have hgs := (h1.ge (g := g) rfl).2
  have hI : ∀ {base' : Nat} {A' : Option Addr} {c' : Nat} {ys : List Int}, OwnI w base' A' c' ys → blk A' = none ∨ blk A' ≠ some g := fun ho => by
    rw [← intE_own] at ho
    exact Own.own_ne ho h1 (by decide)
  refine ⟨⟨hs.set k ⟨B, xs.length, d⟩, hput.1, fun g' hg' => by have := blk_inj hg'; omega, by simp [h3], fun i h ys e1 e2 => ?_, fun i j h h' e1 e2 hij => ?_⟩, hput.2⟩
  · by_cases hik : i = k
    · subst hik
      rw [List.getElem?_set_self (by omega)] at e1 e2
      injection e1 with e1
      injection e2 with e2
      subst e1 e2
      exact ⟨rfl, (hrow.mono hbt).grown hput.2 (hI hrow), fun g' hg' => (hrow.ge hg').2⟩
    · rw [List.getElem?_set_ne (Ne.symm hik)] at e1 e2
      obtain ⟨m1, m2, m3⟩ := h4 i h ys e1 e2
      exact ⟨m1, m2.grown hput.2 (hI m2), fun g' hg' => (m2.ge hg').2⟩
  · by_cases hik : i = k
    · subst hik
      rw [List.getElem?_set_self (by omega)] at e1
      rw [List.getElem?_set_ne hij] at e2
      injection e1 with e1
      subst e1
      cases hb : blk B with
      | none => exact .inl rfl
      | some b =>
        have hj : j < hs.length := (List.getElem?_eq_some_iff.1 e2).1
        obtain ⟨m1, m2, m3⟩ := h4 j h' _ e2 (List.getElem?_eq_getElem (by omega))
        refine .inr (fun e => ?_)
        have := (hrow.ge (g := b) hb).1
        have := m3 b e.symm
        omega
    · rw [List.getElem?_set_ne (Ne.symm hik)] at e1
      by_cases hjk : j = k
      · subst hjk
        rw [List.getElem?_set_self (by omega)] at e2
        injection e2 with e2
        subst e2
        have hi : i < hs.length := (List.getElem?_eq_some_iff.1 e1).1
        obtain ⟨m1, m2, m3⟩ := h4 i h _ e1 (List.getElem?_eq_getElem (by omega))
        cases hb : blk h.A with
        | none => exact .inl rfl
        | some b =>
          refine .inr (fun e => ?_)
          have := (hrow.ge (g := b) e.symm).1
          have := m3 b hb
          omega
      · rw [List.getElem?_set_ne (Ne.symm hjk)] at e2
        exact h5 i j h h' e1 e2 hij
end
/-- A slice of slices that 'make' has just laid. -/
theorem OwnC.made (w : World) {base : Nat} (n : Nat) {m : Nat} (hn : n = w.heap.size) (hb : base ≤ w.heap.size) (hm : m ≤ 9223372036854775807) :
    OwnC (w.alloc (.cells (madeCells hdE.z.cells (m * hdE.size)) 34)) base (n + 1) (some ⟨n, 0, none⟩) m (List.replicate m []) := by
  have h := Own.made (E := hdE) w (base := base) n (m := m) ⟨none, 0, 0⟩ rfl hn hb hm
  refine ⟨List.replicate m ⟨none, 0, 0⟩, h, fun g hg => by have := blk_inj hg; omega, by simp, fun i h xs e1 e2 => ?_, fun i j h h' e1 e2 hij => ?_⟩
  · rw [List.getElem?_replicate] at e1 e2
    split at e1
    · rw [if_pos ‹_›] at e2
      injection e1 with e1
      injection e2 with e2
      subst e1 e2
      exact ⟨rfl, OwnI.nil _ _, fun g hg => by simp [blk] at hg⟩
    · cases e1
  · rw [List.getElem?_replicate] at e1
    split at e1
    · injection e1 with e1
      subst e1
      exact .inl rfl
    · cases e1

/-- A function that hands back a slice of slices of its own. -/
def RetC (w : World) (code : List (List Int)) (e : Ending) (w' : World) : Prop :=
  ∃ A c, e = .returned (.slice A code.length c) ∧ OwnC w' w.heap.size w'.heap.size A c code ∧ Below w.heap.size w w'
/-- The same, and a number. -/
def RetCC (w : World) (code : List (List Int)) (n : Int) (e : Ending) (w' : World) : Prop :=
  ∃ A c, e = .returned (.tuple #[.slice A code.length c, .int .i64 n]) ∧ OwnC w' w.heap.size w'.heap.size A c code ∧ Below w.heap.size w w'

/-- The walk's law: out = append(out, row), the row one of the call's own, made since block top. -/
theorem wpList_append_code {ops : Array Oper} {rest : List Oper} {o : Oper} {a : Act} {w : World} {Q : Exit → Act → World → Prop} (hgd : o.guard = none) (s x : Operand)
    (ho : o.op = .call { callee := .builtin .append, args := #[s, x], argTypes := #[24, 24] })
    (base top : Nat) (A : Option Addr) (c : Nat) (code : List (List Int)) (hs : a.eval s = .slice A code.length c) (hown : OwnC w base top A c code)
    (B' : Option Addr) (d' : Nat) (hx : a.eval x = .slice B' 1 d') (B : Option Addr) (d : Nat) (xs : List Int) (hr : RG hdE w B' [⟨B, xs.length, d⟩]) (hrow : OwnI w top B d xs) (hbt : base ≤ top) (hts : top ≤ w.heap.size)
    (hlen : code.length ≤ 1048576) (code2 : List (List Int)) (hc2 : code2 = code ++ [xs])
    (h : ∀ A2 c2 w2, OwnC w2 base w2.heap.size A2 c2 code2 → w.grownBy w2 (blk A) → (blk A2 = blk A ∨ blk A2 = some w.heap.size) → wpList Try.prog ops Q rest (a.put o.dst (.slice A2 code2.length c2)) w2) : wpList Try.prog ops Q (o :: rest) a w := by
  obtain ⟨hs', h1, h2, h3, h4, h5⟩ := hown
  subst hc2
  refine wpList_append_row hdE hgd s x ho base A c hs' (by rw [hs, h3]) h1 B' d' [⟨B, xs.length, d⟩] hx hr (by simp; omega) (by simp [hdE]; omega) (by omega) _ rfl ?_
  intro A2 c2 w2 own2 hg2 hb2
  have hl : (hs' ++ [(⟨B, xs.length, d⟩ : Hd)]).length = (code ++ [xs]).length := by simp [h3]
  rw [hl]
  have hI : ∀ {base' : Nat} {A' : Option Addr} {c' : Nat} {ys : List Int}, OwnI w base' A' c' ys → blk A' = none ∨ blk A' ≠ blk A := fun hoo => by
    rw [← intE_own] at hoo
    exact Own.own_ne hoo h1 (by decide)
  refine h A2 c2 w2 ⟨hs' ++ [⟨B, xs.length, d⟩], own2, fun g hg => (own2.ge hg).2, hl, fun i h ys e1 e2 => ?_, fun i j h h' e1 e2 hij => ?_⟩ hg2 hb2
  · by_cases hi : i < hs'.length
    · rw [List.getElem?_append_left hi] at e1
      rw [List.getElem?_append_left (by omega)] at e2
      obtain ⟨m1, m2, m3⟩ := h4 i h ys e1 e2
      have m4 := m2.grown hg2 (hI m2)
      exact ⟨m1, m4, fun g hg => (m4.ge hg).2⟩
    · rw [List.getElem?_append_right (by omega)] at e1
      rw [List.getElem?_append_right (by omega)] at e2
      have hi0 : i - hs'.length = 0 := by
        have := (List.getElem?_eq_some_iff.1 e1).1
        simp at this
        omega
      rw [hi0] at e1
      rw [show i - code.length = 0 by omega] at e2
      simp at e1 e2
      subst e1 e2
      have m4 := (hrow.mono hbt).grown hg2 (hI hrow)
      exact ⟨rfl, m4, fun g hg => (m4.ge hg).2⟩
  · have hnew : ∀ (i : Nat) (h : Hd), hs'[i]? = some h → blk h.A = none ∨ blk h.A ≠ blk B := fun i h e1 => by
      have hi : i < hs'.length := (List.getElem?_eq_some_iff.1 e1).1
      obtain ⟨m1, m2, m3⟩ := h4 i h _ e1 (List.getElem?_eq_getElem (by omega))
      cases hb : blk h.A with
      | none => exact .inl rfl
      | some b =>
        refine .inr (fun e => ?_)
        have := (hrow.ge (g := b) e.symm).1
        have := m3 b hb
        omega
    by_cases hi : i < hs'.length
    · rw [List.getElem?_append_left hi] at e1
      by_cases hj : j < hs'.length
      · rw [List.getElem?_append_left hj] at e2
        exact h5 i j h h' e1 e2 hij
      · rw [List.getElem?_append_right (by omega)] at e2
        have hj0 : j - hs'.length = 0 := by
          have := (List.getElem?_eq_some_iff.1 e2).1
          simp at this
          omega
        rw [hj0] at e2
        simp at e2
        subst e2
        exact hnew i h e1
    · rw [List.getElem?_append_right (by omega)] at e1
      have hi0 : i - hs'.length = 0 := by
        have := (List.getElem?_eq_some_iff.1 e1).1
        simp at this
        omega
      rw [hi0] at e1
      simp at e1
      subst e1
      have hj : j < hs'.length := by
        rcases Nat.lt_or_ge j hs'.length with hj | hj
        · exact hj
        · have := (List.getElem?_eq_some_iff.1 e2).1
          simp at this
          omega
      rw [List.getElem?_append_left hj] at e2
      rcases hnew j h' e2 with e | e
      · cases hb : blk B with
        | none => exact .inl rfl
        | some b => exact .inr (fun e3 => by rw [e] at e3; cases e3)
      · exact .inr (fun e3 => e e3.symm)
end Go.Proofs.Ytnjojnnapdhijaa
