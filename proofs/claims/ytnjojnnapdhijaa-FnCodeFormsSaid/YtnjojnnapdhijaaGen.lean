/-
  Rows of elements of any kind: what a slice reads as, rows of the call's own, make and append. Conditions: none; where a row grows its bytes are far below the machine's.
-/
import Derived.Test.YtnjojnnapdhijaaApp
import Derived.Test.YtnjojnnapdhijaaPtsMem
import Derived.Deep.QuietTactic
import Derived.Deep.RegionLaw
import Derived.Laws.Concat
import Derived.Lib.AppendStr
namespace Go.Proofs.Ytnjojnnapdhijaa
open Go.RowKit
set_option linter.unusedVariables false

/-- a text of these bytes -/
def str (l : List UInt8) : Value := .string ⟨l.toArray⟩
theorem str_cells (l : List UInt8) : (str l).cells = #[str l] := rfl
theorem str_one (l : List UInt8) : (str l).oneCell' = true := rfl
theorem str_add {P : Program} (w : World) (t : TypeId) (x y : List UInt8) (h : x.length + y.length ≤ 9223372036854775807) : (binOp .add t (str x) (str y)).run P w = .ok (str (x ++ y)) w := by
  unfold str
  rw [binOp_string_add, run_string_add_sum w _ _ (by simpa [ByteArray.size] using h), ByteArray.mk_append_mk]

/-- How an element lies in memory, with the types of the element and of the slice. -/
structure El (α : Type) where
  cells : α → List Value
  size : Nat
  ty : TypeId
  sl : TypeId
  bytes : Nat
  z : Value
  len : ∀ x, (cells x).length = size
  pos : 0 < size
  und : Try.prog.underlying sl = some (.slice ty)
  inf : (Try.prog.info? ty).map (fun i => (i.zero, i.size, i.bytes)) = some (some z, size, bytes)
  hz : z.cells.size = size
  one : ∀ x, ∀ u ∈ cells x, u.oneCell' = true

/-- The slice that begins at A reads as xs. -/
def RG {α : Type} (E : El α) (w : World) (A : Option Addr) (xs : List α) : Prop := Rd w A (xs.flatMap E.cells)

/-- The slice (A, xs.length, c) is one that the call made. -/
def Own {α : Type} (E : El α) (w : World) (base : Nat) (A : Option Addr) (c : Nat) (xs : List α) : Prop := w.ownsRow base E.ty E.size (.slice A xs.length c) xs.length (xs.flatMap E.cells)

section
variable {α : Type} {E : El α} {w w' : World} {A : Option Addr} {xs : List α}
theorem El.flen (E : El α) (xs : List α) : (xs.flatMap E.cells).length = xs.length * E.size := flat_len E.cells E.size E.len xs
theorem RG.nil (w : World) (A : Option Addr) : RG E w A [] := Rd.nil w A
theorem RG.row (h : RG E w A xs) {k : Nat} (hk : k < xs.length) :
    ∃ b off x, A = some ⟨b, off, none⟩ ∧ b < w.heap.size ∧ xs[k]? = some x ∧ ∀ j u, (E.cells x)[j]? = some u → w.cell? ⟨b, off + (k * E.size + j), none⟩ = some u := by
  have hl := E.flen xs
  have hp := E.pos
  obtain ⟨b, off, e, hc⟩ := h (by rw [hl]; exact Nat.mul_pos (by omega) hp)
  have hx : xs[k]? = some xs[k] := List.getElem?_eq_getElem hk
  have each : ∀ j u, (E.cells xs[k])[j]? = some u → w.cell? ⟨b, off + (k * E.size + j), none⟩ = some u := fun j u hu => by
    have hj : j < E.size := by rw [← E.len xs[k]]; exact (List.getElem?_eq_some_iff.1 hu).1
    have h0 := flat_at E.cells E.size E.len xs k j hj
    rw [hx] at h0
    exact hc _ _ (h0.trans hu)
  have h0 : (E.cells xs[k])[0]? = some ((E.cells xs[k])[0]'(by rw [E.len]; exact hp)) := List.getElem?_eq_getElem _
  exact ⟨b, off, xs[k], e, World.block_lt_of_cell? w ⟨b, _, none⟩ (each 0 _ h0), hx, each⟩
theorem RG.keep (h : RG E w A xs) (hk : ∀ b, b < w.heap.size → blk A = some b → w'.heap[b]? = w.heap[b]?) : RG E w' A xs := Rd.keep h hk
theorem RG.below (h : RG E w A xs) (hb : Below w.heap.size w w') : RG E w' A xs := Rd.below h hb
theorem RG.alloc (h : RG E w A xs) (o : Obj) : RG E (w.alloc o) A xs := Rd.alloc h o
theorem RG.drew (h : RG E w A xs) : RG E w.drew A xs := h
theorem RG.drewN (h : RG E w A xs) (n : Nat) : RG E (w.drewN n) A xs := h
theorem RG.grown {row : Option Nat} (h : RG E w A xs) (hg : w.grownBy w' row) (hr : blk A = none ∨ blk A ≠ row) : RG E w' A xs := Rd.grown h hg hr
theorem RG.take_ (h : RG E w A xs) (k : Nat) : RG E w A (xs.take k) := by
  unfold RG
  rw [flat_take E.cells E.size E.len]
  exact Rd.prefix_ h
theorem RG.lt (h : RG E w A xs) (hn : 0 < xs.length) {g : Nat} (hg : blk A = some g) : g < w.heap.size := Rd.lt h (by rw [E.flen]; exact Nat.mul_pos hn E.pos) hg
theorem RG.setCell (h : RG E w A xs) {p : Addr} (hp : blk A ≠ some p.block) (u : Value) : RG E (w.setCell p u) A xs := Rd.setCell h hp u
end

section
variable {α : Type} {E : El α} {w w' : World} {base : Nat} {A : Option Addr} {c : Nat} {xs : List α}
theorem Own.rd (h : Own E w base A c xs) : RG E w A xs := Rd.ofOwn h
theorem Own.cap_ (h : Own E w base A c xs) : xs.length ≤ c ∧ c ≤ 9223372036854775807 := by
  rcases h.2 with ⟨hv, h0⟩ | ⟨g, cap, cur, hv, hb, hh, hnc, hcm, hcs, ht⟩
  · injection hv with hA hn hc
    subst hc
    omega
  · injection hv with hA hn hc
    subst hc
    exact ⟨hnc, by simpa [maxLen] using hcm⟩
theorem Own.ge (h : Own E w base A c xs) {g : Nat} (hg : blk A = some g) : base ≤ g ∧ g < w.heap.size := by
  refine World.ownsRow.lt h g ?_
  cases A with
  | none => simp [blk] at hg
  | some a => simpa [blk, Value.ownBlock] using hg
theorem Own.keep (h : Own E w base A c xs) (hk : ∀ b, b < w.heap.size → blk A = some b → w'.heap[b]? = w.heap[b]?) : Own E w' base A c xs := by
  refine ⟨h.1, ?_⟩
  rcases h.2 with hn | ⟨g, cap, cur, hv, hb, hgg, rest⟩
  · exact .inl hn
  · refine .inr ⟨g, cap, cur, hv, hb, ?_, rest⟩
    rw [hk g (Array.getElem?_eq_some_iff.1 hgg).1 (by injection hv with hA; subst hA; rfl)]
    exact hgg
theorem Own.below (h : Own E w base A c xs) (hb : Below w.heap.size w w') : Own E w' base A c xs := h.keep fun b h1 _ => hb.block b h1
theorem Own.alloc (h : Own E w base A c xs) (o : Obj) : Own E (w.alloc o) base A c xs := h.keep fun b h1 _ => Below.heap_alloc w o b h1
theorem Own.drew (h : Own E w base A c xs) : Own E w.drew base A c xs := h
theorem Own.drewN (h : Own E w base A c xs) (n : Nat) : Own E (w.drewN n) base A c xs := h
theorem Own.mono {base' : Nat} (h : Own E w base A c xs) (hb : base' ≤ base) : Own E w base' A c xs := by
  refine ⟨h.1, ?_⟩
  rcases h.2 with hn | ⟨g, cap, cur, hv, hbb, rest⟩
  · exact .inl hn
  · exact .inr ⟨g, cap, cur, hv, Nat.le_trans hb hbb, rest⟩
theorem Own.setLow (h : Own E w base A c xs) {p : Addr} (hp : p.block < base) (u : Value) : Own E (w.setCell p u) base A c xs :=
  h.keep fun b _ h2 => Below.heap_setCell w p u b (fun e => by have := (h.ge h2).1; omega)
theorem Own.setFar (h : Own E w base A c xs) {p : Addr} (hp : blk A ≠ some p.block) (u : Value) : Own E (w.setCell p u) base A c xs :=
  h.keep fun b _ h2 => Below.heap_setCell w p u b (fun e => hp (by rw [h2, e]))
theorem Own.nil (w : World) (base : Nat) : Own E w base none 0 [] := World.ownsRow_nil w base _ _
theorem Own.grown {row : Option Nat} (h : Own E w base A c xs) (hg : w.grownBy w' row) (hr : blk A = none ∨ blk A ≠ row) : Own E w' base A c xs :=
  h.keep fun b h1 h2 => hg.block b h1 (fun e => by
    rcases hr with hr | hr
    · rw [hr] at h2; cases h2
    · exact hr (h2.trans e))
theorem Own.new (w : World) {base : Nat} (xs : List α) (cs : Array Value) (hcs : cs.toList = xs.flatMap E.cells) (hb : base ≤ w.heap.size) (hm : xs.length ≤ 9223372036854775807) :
    Own E (w.alloc (.cells cs E.ty)) base (some ⟨w.heap.size, 0, none⟩) xs.length xs := by
  have hl : cs.size = xs.length * E.size := by rw [← Array.length_toList, hcs, E.flen]
  have := World.ownsRow_lit (base := base) (e := E.ty) (size := E.size) w cs xs.length hb (by simpa [maxLen] using hm) hl
  rwa [hcs] at this
theorem Own.new_ (w : World) {base : Nat} (n : Nat) (xs : List α) (cs : Array Value) (hn : n = w.heap.size) (hcs : cs.toList = xs.flatMap E.cells) (hb : base ≤ w.heap.size) (hm : xs.length ≤ 9223372036854775807) :
    Own E (w.alloc (.cells cs E.ty)) base (some ⟨n, 0, none⟩) xs.length xs := by
  subst hn
  exact Own.new w xs cs hcs hb hm
/-- An element at hand. -/
theorem Own.row (h : Own E w base A c xs) {k : Nat} (hk : k < xs.length) :
    ∃ g x, A = some ⟨g, 0, none⟩ ∧ base ≤ g ∧ g < w.heap.size ∧ xs[k]? = some x ∧ (∀ j u, (E.cells x)[j]? = some u → w.cell? ⟨g, k * E.size + j, none⟩ = some u) ∧ (∀ o, w.frozen? ⟨g, o, none⟩ = false) := by
  have hl := E.flen xs
  have hp := E.pos
  rcases h.2 with ⟨hv, h0⟩ | ⟨g, cap, cur, hv, hb, hh, hnc, hcm, hcs, ht⟩
  · omega
  · injection hv with hA hn hc
    subst hA hc
    have h' : w.ownsRow base E.ty E.size (.slice (some ⟨g, 0, none⟩) xs.length c) xs.length (xs.flatMap E.cells) := h
    have hx : xs[k]? = some xs[k] := List.getElem?_eq_getElem hk
    refine ⟨g, xs[k], rfl, hb, (Array.getElem?_eq_some_iff.1 hh).1, hx, fun j u hu => ?_, fun o => h'.frozenAt o⟩
    have hj : j < E.size := by rw [← E.len xs[k]]; exact (List.getElem?_eq_some_iff.1 hu).1
    have h0 := flat_at E.cells E.size E.len xs k j hj
    rw [hx] at h0
    have hb2 : k * E.size + j < xs.length * E.size := by
      have := Nat.mul_le_mul_right E.size (show k + 1 ≤ xs.length from hk)
      rw [Nat.add_mul, Nat.one_mul] at this
      omega
    rw [h'.cellAt (k * E.size + j) hb2, h0]
    exact hu
theorem flat_put {α : Type} (f : α → List Value) (s : Nat) (hf : ∀ x, (f x).length = s) (xs : List α) (k j : Nat) (x y : α) (u : Value) (hx : xs[k]? = some x) (hj : j < s) (hy : f y = (f x).set j u) :
    (xs.set k y).flatMap f = (xs.flatMap f).set (k * s + j) u := by
  have hk : k < xs.length := (List.getElem?_eq_some_iff.1 hx).1
  have hl := flat_len f s hf xs
  have hkj : k * s + j < xs.length * s := by
    have := Nat.mul_le_mul_right s (show k + 1 ≤ xs.length from hk)
    rw [Nat.add_mul, Nat.one_mul] at this
    omega
  apply List.ext_getElem?
  intro m
  rw [flat_set f s hf]
  by_cases h1 : k * s + j = m
  · subst h1
    rw [List.getElem?_set_self (by omega)]
    have d1 : (k * s + j) / s = k := by rw [Nat.mul_comm, Nat.mul_add_div (by omega), Nat.div_eq_of_lt hj]; omega
    have d2 : (k * s + j) % s = j := by rw [Nat.mul_comm, Nat.mul_add_mod, Nat.mod_eq_of_lt hj]
    rw [if_pos ⟨d1, hk, by omega⟩, d2, hy, List.getElem?_set_self (by rw [hf]; exact hj)]
  · rw [List.getElem?_set_ne h1]
    split
    · rename_i h2
      have hm : m = k * s + m % s := by
        have := Nat.div_add_mod m s
        rw [h2.1, Nat.mul_comm] at this
        omega
      have hlt := Nat.mod_lt m h2.2.2
      have h3 := flat_at f s hf xs k (m % s) hlt
      rw [← hm, hx] at h3
      rw [h3, hy, List.getElem?_set_ne (by omega)]
      rfl
    · rfl
/-- A store into cell j of element k. -/
theorem Own.put {g : Nat} (h : Own E w base (some ⟨g, 0, none⟩) c xs) {k j : Nat} {x y : α} {u : Value} (hx : xs[k]? = some x) (hj : j < E.size) (hy : E.cells y = (E.cells x).set j u) :
    Own E (w.setCell ⟨g, k * E.size + j, none⟩ u) base (some ⟨g, 0, none⟩) c (xs.set k y) ∧ w.grownBy (w.setCell ⟨g, k * E.size + j, none⟩ u) (some g) := by
  have h' : w.ownsRow base E.ty E.size (.slice (some ⟨g, 0, none⟩) xs.length c) xs.length (xs.flatMap E.cells) := h
  have hs := h'.stored (k * E.size + j) u
  refine ⟨?_, hs.2⟩
  unfold Own
  rw [List.length_set, flat_put E.cells E.size E.len xs k j x y u hx hj hy]
  exact hs.1
theorem Own.grownNew {β : Type} {F : El β} {w0 : World} {b0 : Nat} {B : Option Addr} {d : Nat} {ys : List β} (h : Own E w base A c xs) (hx : Own F w0 b0 B d ys) (hs : w0.heap.size ≤ base) (hg : w.grownBy w' (blk B)) : Own E w' base A c xs :=
  h.keep fun b h1 h2 => hg.block b h1 (fun e => by
    have := hx.ge e.symm
    have := h.ge h2
    omega)
theorem Own.box_ne {b : Nat} {t : TypeId} {cs : Array Value} (h : Own E w base A c xs) (hb : Bx w b t cs) (hne : t ≠ E.ty) : blk A ≠ some b := fun e => by
  rcases h.2 with ⟨hv, h0⟩ | ⟨g, cap, cur, hv, _, hh, _⟩
  · injection hv with hA
    subst hA
    cases e
  · injection hv with hA
    subst hA
    have hgb : g = b := by injection e
    subst hgb
    unfold Bx at hb
    rw [hb] at hh
    injection hh with hh
    injection hh with _ ht
    exact hne ht
theorem Own.own_ne {β : Type} {F : El β} {b2 : Nat} {B : Option Addr} {d : Nat} {ys : List β} (h : Own E w base A c xs) (hB : Own F w b2 B d ys) (hne : F.ty ≠ E.ty) : blk A = none ∨ blk A ≠ blk B := by
  rcases h.2 with ⟨hv, h0⟩ | ⟨g, cap, cur, hv, _, hh, _⟩
  · injection hv with hA
    subst hA
    exact .inl rfl
  · injection hv with hA
    subst hA
    refine .inr fun e => ?_
    rcases hB.2 with ⟨hv2, h02⟩ | ⟨g2, cap2, cur2, hv2, _, hh2, _⟩
    · injection hv2 with hA2
      subst hA2
      cases e
    · injection hv2 with hA2
      subst hA2
      have hgb : g = g2 := by injection e
      subst hgb
      rw [hh2] at hh
      injection hh with hh
      injection hh with _ ht
      exact hne ht
theorem madeCells_flat (E : El α) (z : α) (hzc : E.z.cells.toList = E.cells z) (m : Nat) : (madeCells E.z.cells (m * E.size)).toList = (List.replicate m z).flatMap E.cells := by
  apply List.ext_getElem?
  intro j
  have hp := E.pos
  have hL := flat_at E.cells E.size E.len (List.replicate m z) (j / E.size) (j % E.size) (Nat.mod_lt _ hp)
  have hj0 : j / E.size * E.size + j % E.size = j := by rw [Nat.mul_comm]; exact Nat.div_add_mod j E.size
  rw [hj0, List.getElem?_replicate] at hL
  rw [hL, Array.getElem?_toList, madeCells, Array.getElem?_map]
  by_cases h : j < m * E.size
  · have hd : j / E.size < m := Nat.div_lt_of_lt_mul (by rw [Nat.mul_comm]; exact h)
    rw [if_pos hd, Array.getElem?_range, if_pos h]
    have hlt := Nat.mod_lt j hp
    simp only [Option.map_some, Option.bind_some, ← hzc, Array.getElem?_toList, E.hz]
    rw [getElem!_pos E.z.cells (j % E.size) (by rw [E.hz]; exact hlt), Array.getElem?_eq_getElem (by rw [E.hz]; exact hlt)]
  · have hd : ¬ j / E.size < m := fun h2 => h (by
      have := Nat.mul_le_mul_right E.size (show j / E.size + 1 ≤ m from h2)
      rw [Nat.add_mul, Nat.one_mul] at this
      have := Nat.mod_lt j hp
      omega)
    rw [if_neg hd, Array.getElem?_range, if_neg h]
    rfl
theorem Own.made (w : World) {base : Nat} (n : Nat) {m : Nat} (z : α) (hzc : E.z.cells.toList = E.cells z) (hn : n = w.heap.size) (hb : base ≤ w.heap.size) (hm : m ≤ 9223372036854775807) :
    Own E (w.alloc (.cells (madeCells E.z.cells (m * E.size)) E.ty)) base (some ⟨n, 0, none⟩) m (List.replicate m z) := by
  subst hn
  have := Own.new (E := E) w (base := base) (List.replicate m z) (madeCells E.z.cells (m * E.size)) (madeCells_flat E z hzc m) hb (by simpa using hm)
  simpa using this
theorem El.run_make (E : El α) (n : Nat) (hn : n * E.bytes ≤ 281474976710656) (hn2 : n ≤ 9223372036854775807) (W : World) :
    (Instr.makeSlice E.sl (.int .i64 (n : Int)) (.int .i64 (n : Int))).run Try.prog W = .ok (.slice (some ⟨W.heap.size, 0, none⟩) n n) (W.alloc (.cells (madeCells E.z.cells (n * E.size)) E.ty)) := by
  obtain ⟨i0, hi, hz0, hz1, hz2⟩ := info_parts E.inf
  have hq : (i0.bytes : Int) * (n : Int) ≤ 281474976710656 := by
    rw [hz2, Int.mul_comm]
    have h1 : ((n * E.bytes : Nat) : Int) ≤ 281474976710656 := by omega
    rwa [Int.natCast_mul] at h1
  have hr := Go.run_make (P := Try.prog) W E.sl E.ty i0 E.z E.und hi hz0 .i64 .i64 n n (by omega) (by omega) hq (by omega)
  rw [hz1] at hr
  simp only [Int.toNat_natCast] at hr
  exact hr
/-- The walk's law: out = append(out, src...), both slices of this kind. -/
theorem wpList_append_row (E : El α) {ops : Array Oper} {rest : List Oper} {o : Oper} {a : Act} {w : World} {Q : Exit → Act → World → Prop} (hgd : o.guard = none) (s x : Operand)
    (ho : o.op = .call { callee := .builtin .append, args := #[s, x], argTypes := #[E.sl, E.sl] })
    (base : Nat) (A : Option Addr) (c : Nat) (xs : List α) (hs : a.eval s = .slice A xs.length c) (hown : Own E w base A c xs)
    (B : Option Addr) (d : Nat) (ys : List α) (hx : a.eval x = .slice B ys.length d) (hr : RG E w B ys)
    (hlen : xs.length + ys.length ≤ 9223372036854775807) (hby : (xs.length + ys.length) * E.bytes ≤ 140737488355328) (hbase : base ≤ w.heap.size) (zs : List α) (hzs : zs = xs ++ ys)
    (h : ∀ A' c' w', Own E w' base A' c' zs → w.grownBy w' (blk A) → (blk A' = blk A ∨ blk A' = some w.heap.size) → wpList Try.prog ops Q rest (a.put o.dst (.slice A' zs.length c')) w') : wpList Try.prog ops Q (o :: rest) a w := by
  subst hzs
  obtain ⟨i0, hi, hz0, hz1, hz2⟩ := info_parts E.inf
  obtain ⟨v', w', hrun, h2, h3, h4⟩ := run_append_rd (P := Try.prog) w base E.sl o.type E.ty i0 E.z E.size E.bytes E.und hi hz0 hz1 hz2 E.hz E.pos (.slice A xs.length c) xs.length (xs.flatMap E.cells) hown B ys.length d (ys.flatMap E.cells)
    (E.flen ys) hr (by intro u hu; rw [List.mem_flatMap] at hu; obtain ⟨y, _, hy⟩ := hu; exact E.one y u hy) (by unfold maxLen; exact hlen) hby hbase
  obtain ⟨A', c', rfl, hb⟩ := own_shape h2
  rw [ownBlock_blk] at h3 h4
  refine wpList_plain hgd fun K hK => ?_
  unfold Oper.wp execOp
  simp only [ho, resolve, invoke, builtin, Sem.run_bind, Sem.run_pure, Result.andThen_ok, List.map_toArray, List.map_cons, List.map_nil, hs, hx, hrun]
  refine hK _ _ ?_
  have := h A' c' w' (by unfold Own; rw [List.length_append, List.flatMap_append]; exact h2) h3 (by rw [ownBlock_blk] at h4; exact h4)
  rwa [List.length_append] at this
/-- The same as one step of a region that draws its order. -/
theorem step_append_row (E : El α) {ops : Array Oper} {o : Oper} {a : Act} {w : World} {K : Act → World → Prop} {Q : Exit → Act → World → Prop} {R : Prop} (hgd : o.guard = none) (s x : Operand)
    (ho : o.op = .call { callee := .builtin .append, args := #[s, x], argTypes := #[E.sl, E.sl] })
    (base : Nat) (A : Option Addr) (c : Nat) (xs : List α) (hs : a.eval s = .slice A xs.length c) (hown : Own E w base A c xs)
    (B : Option Addr) (d : Nat) (ys : List α) (hx : a.eval x = .slice B ys.length d) (hr : RG E w B ys)
    (hlen : xs.length + ys.length ≤ 9223372036854775807) (hby : (xs.length + ys.length) * E.bytes ≤ 140737488355328) (hbase : base ≤ w.heap.size) (zs : List α) (hzs : zs = xs ++ ys)
    (h : ∀ A' c' w', Own E w' base A' c' zs → w.grownBy w' (blk A) → (blk A' = blk A ∨ blk A' = some w.heap.size) → K (a.put o.dst (.slice A' zs.length c')) w') :
    if Region.wanted o (yielded ops a.tmps) = true then Oper.wp Try.prog o a w K Q else R := by
  have hw : Region.wanted o (yielded ops a.tmps) = true := by simp [Region.wanted, hgd]
  rw [if_pos hw]
  subst hzs
  obtain ⟨i0, hi, hz0, hz1, hz2⟩ := info_parts E.inf
  obtain ⟨v', w', hrun, h2, h3, h4⟩ := run_append_rd (P := Try.prog) w base E.sl o.type E.ty i0 E.z E.size E.bytes E.und hi hz0 hz1 hz2 E.hz E.pos (.slice A xs.length c) xs.length (xs.flatMap E.cells) hown B ys.length d (ys.flatMap E.cells)
    (E.flen ys) hr (by intro u hu; rw [List.mem_flatMap] at hu; obtain ⟨y, _, hy⟩ := hu; exact E.one y u hy) (by unfold maxLen; exact hlen) hby hbase
  obtain ⟨A', c', rfl, hb⟩ := own_shape h2
  rw [ownBlock_blk] at h3 h4
  have hk := h A' c' w' (by unfold Own; rw [List.length_append, List.flatMap_append]; exact h2) h3 (by rw [ownBlock_blk] at h4; exact h4)
  rw [List.length_append] at hk
  unfold Oper.wp execOp
  simp only [ho, resolve, invoke, builtin, Sem.run_bind, Sem.run_pure, Result.andThen_ok, List.map_toArray, List.map_cons, List.map_nil, hs, hx, hrun]
  exact hk
/-- A fresh row of one element. -/
theorem RG.fresh (w : World) (n : Nat) (hn : n = w.heap.size) (x : α) (cs : Array Value) (hcs : cs.toList = E.cells x) (t : TypeId) : RG E (w.alloc (.cells cs t)) (some ⟨n, 0, none⟩) [x] := fun _ => by
  subst hn
  refine ⟨w.heap.size, 0, rfl, fun j u hu => ?_⟩
  rw [cell_of_row _ _ _ cs t (0, 0) (heap_alloc_new w _), Nat.zero_add]
  rw [List.flatMap_cons, List.flatMap_nil, List.append_nil, ← hcs] at hu
  simpa using hu
end

/-- a callee that leaves the world as it is, met in a quiet region, and in a second one -/
theorem quiet1 {P : Program} {f : FuncId} {args : Array Value} {w : World} {n : Nat} {v : Value} (h : Calls P f args (w.drewN n) fun e w' => e = .returned v ∧ w.drewN n = w') : Calls P f args (w.drewN n) fun e w'' => e = .returned v ∧ ∃ m, w'' = w.drewN m :=
  h.mono fun _ _ h2 => ⟨h2.1, n, h2.2.symm⟩
theorem quiet2 {P : Program} {f : FuncId} {args : Array Value} {w : World} {a n : Nat} {v : Value} (h : Calls P f args (w.drewN (a + n)) fun e w' => e = .returned v ∧ w.drewN (a + n) = w') : Calls P f args (w.drewN (a + n)) fun e w'' => e = .returned v ∧ ∃ m, w'' = w.drewN (a + m) :=
  h.mono fun _ _ h2 => ⟨h2.1, n, h2.2.symm⟩

/-- A function that hands back a row of its own. -/
def RetG {α : Type} (E : El α) (w : World) (xs : List α) (e : Ending) (w' : World) : Prop :=
  ∃ A c, e = .returned (.slice A xs.length c) ∧ Own E w' w.heap.size A c xs ∧ Below w.heap.size w w'

/-- ints -/
def intE : El Int where
  cells x := [.int .i64 x]
  size := 1
  ty := 2
  sl := 34
  bytes := 8
  z := .int .i64 0
  len _ := rfl
  pos := by omega
  und := Try.underlying34
  inf := by kernel_rfl
  hz := rfl
  one x u hu := by simp at hu; subst hu; rfl
theorem flat_ints (xs : List Int) : xs.flatMap intE.cells = xs.map (Value.int .i64) := by
  induction xs with
  | nil => rfl
  | cons x t ih => rw [List.flatMap_cons, ih]; rfl
theorem intE_rd {w : World} {A : Option Addr} {xs : List Int} : RG intE w A xs ↔ RI w A xs := by unfold RG RI; rw [flat_ints]
theorem intE_own {w : World} {base : Nat} {A : Option Addr} {c : Nat} {xs : List Int} : Own intE w base A c xs ↔ OwnI w base A c xs := by unfold Own OwnI; rw [flat_ints]; exact Iff.rfl

/-- points -/
def ptE : El (Int × Int) where
  cells := ptC
  size := 2
  ty := 110
  sl := 159
  bytes := 16
  z := .agg #[.int .i64 0, .int .i64 0]
  len _ := rfl
  pos := by omega
  und := Try.underlying159
  inf := by kernel_rfl
  hz := rfl
  one x u hu := by simp [ptC] at hu; rcases hu with rfl | rfl <;> rfl

/-- bools -/
def boolE : El Bool where
  cells x := [.bool x]
  size := 1
  ty := 4
  sl := 71
  bytes := 1
  z := .bool false
  len _ := rfl
  pos := by omega
  und := Try.underlying71
  inf := by kernel_rfl
  hz := rfl
  one x u hu := by simp at hu; subst hu; rfl

/-- the headers of slices of ints -/
structure Hd where
  A : Option Addr
  n : Nat
  c : Nat
def hdE : El Hd where
  cells h := [.slice h.A h.n h.c]
  size := 1
  ty := 34
  sl := 24
  bytes := 24
  z := .slice none 0 0
  len _ := rfl
  pos := by omega
  und := Try.underlying24
  inf := by kernel_rfl
  hz := rfl
  one x u hu := by simp at hu; subst hu; rfl

/-- bytes -/
def byteE : El UInt8 where
  cells x := [.int .u8 (x.toNat : Int)]
  size := 1
  ty := 5
  sl := 22
  bytes := 1
  z := .int .u8 0
  len _ := rfl
  pos := by omega
  und := Try.underlying22
  inf := by kernel_rfl
  hz := rfl
  one x u hu := by simp at hu; subst hu; rfl

theorem flat_bytes (zs : List UInt8) : zs.flatMap byteE.cells = zs.map fun x => Value.int .u8 (x.toNat : Int) := by -- 22
  induction zs with
  | nil => rfl
  | cons x t ih => rw [List.flatMap_cons, ih]; rfl
/-- out = append(out, s...), s a text. -/
theorem wpList_append_str {ops : Array Oper} {rest : List Oper} {o : Oper} {a : Act} {w : World} {Q : Exit → Act → World → Prop} (hgd : o.guard = none) (s x : Operand)
    (ho : o.op = .call { callee := .builtin .append, args := #[s, x], argTypes := #[22, 9] })
    (base : Nat) (A : Option Addr) (c : Nat) (xs : List UInt8) (hs : a.eval s = .slice A xs.length c) (hown : Own byteE w base A c xs)
    (ys : List UInt8) (hx : a.eval x = str ys)
    (hlen : xs.length + ys.length ≤ 140737488355328) (hbase : base ≤ w.heap.size) (zs : List UInt8) (hzs : zs = xs ++ ys)
    (h : ∀ A' c' w', Own byteE w' base A' c' zs → w.grownBy w' (blk A) → wpList Try.prog ops Q rest (a.put o.dst (.slice A' zs.length c')) w') : wpList Try.prog ops Q (o :: rest) a w := by
  subst hzs
  obtain ⟨i0, hi, hz0, hz1, hz2⟩ := info_parts byteE.inf
  have hsz : (⟨ys.toArray⟩ : ByteArray).size = ys.length := by simp [ByteArray.size]
  obtain ⟨v', w', hrun, h2, h3, h4⟩ := Lib.run_append_own_string (P := Try.prog) w base 22 9 o.type 5 i0 Try.underlying22 Try.underlying9 hi hz0 hz1 hz2 (.slice A xs.length c) xs.length (xs.flatMap byteE.cells) hown ⟨ys.toArray⟩
    (by rw [hsz]; unfold maxLen; omega) (by rw [hsz]; exact hlen) hbase
  rw [hsz] at h2
  have hc : xs.flatMap byteE.cells ++ Lib.strCells ⟨ys.toArray⟩ = (xs ++ ys).flatMap byteE.cells := by
    rw [List.flatMap_append, flat_bytes ys]; rfl
  rw [hc] at h2
  obtain ⟨A', c', rfl, hb⟩ := own_shape h2
  rw [ownBlock_blk] at h3
  have hk := h A' c' w' (by unfold Own; rw [List.length_append]; exact h2) h3
  rw [List.length_append] at hk
  unfold str at hx
  refine wpList_plain hgd fun K hK => ?_
  unfold Oper.wp execOp
  simp only [ho, resolve, invoke, builtin, Sem.run_bind, Sem.run_pure, Result.andThen_ok, List.map_toArray, List.map_cons, List.map_nil, hs, hx, hrun]
  exact hK _ _ hk
/-- out = append(out, s...), s a text, as one step of a region that draws its order. -/
theorem step_append_str {ops : Array Oper} {o : Oper} {a : Act} {w : World} {K : Act → World → Prop} {Q : Exit → Act → World → Prop} {R : Prop} (hgd : o.guard = none) (s x : Operand)
    (ho : o.op = .call { callee := .builtin .append, args := #[s, x], argTypes := #[22, 9] })
    (base : Nat) (A : Option Addr) (c : Nat) (xs : List UInt8) (hs : a.eval s = .slice A xs.length c) (hown : Own byteE w base A c xs)
    (ys : List UInt8) (hx : a.eval x = str ys)
    (hlen : xs.length + ys.length ≤ 140737488355328) (hbase : base ≤ w.heap.size) (zs : List UInt8) (hzs : zs = xs ++ ys)
    (h : ∀ A' c' w', Own byteE w' base A' c' zs → w.grownBy w' (blk A) → K (a.put o.dst (.slice A' zs.length c')) w') :
    if Region.wanted o (yielded ops a.tmps) = true then Oper.wp Try.prog o a w K Q else R := by
  have hw : Region.wanted o (yielded ops a.tmps) = true := by simp [Region.wanted, hgd]
  rw [if_pos hw]
  subst hzs
  obtain ⟨i0, hi, hz0, hz1, hz2⟩ := info_parts byteE.inf
  have hsz : (⟨ys.toArray⟩ : ByteArray).size = ys.length := by simp [ByteArray.size]
  obtain ⟨v', w', hrun, h2, h3, h4⟩ := Lib.run_append_own_string (P := Try.prog) w base 22 9 o.type 5 i0 Try.underlying22 Try.underlying9 hi hz0 hz1 hz2 (.slice A xs.length c) xs.length (xs.flatMap byteE.cells) hown ⟨ys.toArray⟩
    (by rw [hsz]; unfold maxLen; omega) (by rw [hsz]; exact hlen) hbase
  rw [hsz] at h2
  have hc : xs.flatMap byteE.cells ++ Lib.strCells ⟨ys.toArray⟩ = (xs ++ ys).flatMap byteE.cells := by
    rw [List.flatMap_append, flat_bytes ys]; rfl
  rw [hc] at h2
  obtain ⟨A', c', rfl, hb⟩ := own_shape h2
  rw [ownBlock_blk] at h3
  have hk := h A' c' w' (by unfold Own; rw [List.length_append]; exact h2) h3
  rw [List.length_append] at hk
  unfold str at hx
  unfold Oper.wp execOp
  simp only [ho, resolve, invoke, builtin, Sem.run_bind, Sem.run_pure, Result.andThen_ok, List.map_toArray, List.map_cons, List.map_nil, hs, hx, hrun]
  exact hk

/-- texts -/
def strE : El (List UInt8) where
  cells s := [str s]
  size := 1
  ty := 9
  sl := 70
  bytes := 16
  z := .string ⟨#[]⟩
  len _ := rfl
  pos := by omega
  und := Try.underlying70
  inf := by kernel_rfl
  hz := rfl
  one x u hu := by simp at hu; subst hu; rfl

end Go.Proofs.Ytnjojnnapdhijaa
