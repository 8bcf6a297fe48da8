/-
  Words for maps with int64 keys that the call makes and only adds to: what a look-up, a store at a new key and len do. Conditions: none.
-/
import Derived.Test.YtnjojnnapdhijaaGen
import Derived.MapKept
namespace Go.Proofs.Ytnjojnnapdhijaa
open Go.RowKit
set_option linter.unusedVariables false

/-- How a map's elements lie, with the types of the map and of its elements. -/
structure Me (α : Type) where
  val : α → Value
  ty : TypeId
  elt : TypeId
  zero : α
  und : Try.prog.underlying ty = some (.map 2 elt)
  hz : ∀ w, (zeroValue elt).run Try.prog w = .ok (val zero) w

/-- Block b is a map that holds the entries l, in this order. -/
def Mp {α : Type} (E : Me α) (w : World) (b : Nat) (l : List (Int × α)) : Prop :=
  ∃ es clock, w.heap[b]? = some (.map es clock) ∧ es.toList.map (fun e => (e.key, e.val)) = l.map (fun p => (Value.int .i64 p.1, E.val p.2))

section
variable {α : Type} {E : Me α} {w w' : World} {b : Nat} {l : List (Int × α)}
theorem Mp.lt (h : Mp E w b l) : b < w.heap.size := by
  obtain ⟨es, clock, hb, _⟩ := h
  exact (Array.getElem?_eq_some_iff.1 hb).1
theorem Mp.keep (h : Mp E w b l) (hk : w'.heap[b]? = w.heap[b]?) : Mp E w' b l := by
  obtain ⟨es, clock, hb, he⟩ := h
  exact ⟨es, clock, hk.trans hb, he⟩
theorem Mp.below (h : Mp E w b l) (hb : Below w.heap.size w w') : Mp E w' b l := h.keep (hb.block b h.lt)
theorem Mp.alloc (h : Mp E w b l) (o : Obj) : Mp E (w.alloc o) b l := h.keep (Below.heap_alloc w o b h.lt)
theorem Mp.drew (h : Mp E w b l) : Mp E w.drew b l := h
theorem Mp.drewN (h : Mp E w b l) (n : Nat) : Mp E (w.drewN n) b l := h
theorem Mp.setFar (h : Mp E w b l) {p : Addr} (hp : b ≠ p.block) (u : Value) : Mp E (w.setCell p u) b l := h.keep (Below.heap_setCell w p u b hp)
theorem Mp.grown {row : Option Nat} (h : Mp E w b l) (hg : w.grownBy w' row) (hne : some b ≠ row) : Mp E w' b l := h.keep (hg.block b h.lt hne)
theorem Mp.made (w : World) (n : Nat) (hn : n = w.heap.size) : Mp E (w.alloc (.map #[] 0)) n [] := by
  subst hn
  exact ⟨#[], 0, heap_alloc_new w _, rfl⟩
/-- A row of the call's own is no map. -/
theorem Mp.own_ne {β : Type} {F : El β} {base : Nat} {A : Option Addr} {c : Nat} {xs : List β} (h : Mp E w b l) (ho : Own F w base A c xs) : some b ≠ blk A := fun e => by
  obtain ⟨es, clock, hb, _⟩ := h
  rcases ho.2 with ⟨hv, h0⟩ | ⟨g, cap, cur, hv, _, hh, _⟩
  · injection hv with hA
    subst hA
    cases e
  · injection hv with hA
    subst hA
    have hgb : b = g := by injection e
    subst hgb
    rw [hb] at hh
    cases hh

theorem findNow_at (E : Me α) (x : Int) : ∀ (es : List MapEntry) (l : List (Int × α)) (i : Nat), es.map (fun e => (e.key, e.val)) = l.map (fun p => (Value.int .i64 p.1, E.val p.2)) →
    (l.lookup x = none → Instr.findNow (.int .i64) (.int .i64 x) es i = some none) ∧ (∀ v, l.lookup x = some v → ∃ j, Instr.findNow (.int .i64) (.int .i64 x) es i = some (some (j, E.val v)))
  | [], [], _, _ => ⟨fun _ => rfl, fun v h => by cases h⟩
  | [], p :: l, _, h => by cases h
  | e :: es, [], _, h => by cases h
  | e :: es, (k, v) :: l, i, h => by
    rw [List.map_cons, List.map_cons] at h
    injection h with h1 h2
    injection h1 with hk hv
    have ih := findNow_at E x es l (i + 1) h2
    have hs : Instr.sameNow (.int .i64) (.int .i64 x) e.key = some (x == k) := by rw [hk]; simp [Instr.sameNow]
    by_cases hx : x = k
    · subst hx
      refine ⟨fun hn => by simp [List.lookup] at hn, fun u hu => ?_⟩
      have hu' : v = u := by simpa [List.lookup] using hu
      subst hu'
      exact ⟨i, by simp [Instr.findNow, hs, hv]⟩
    · have hb : (x == k) = false := by simpa using hx
      rw [hb] at hs
      constructor
      · intro hn
        rw [List.lookup, hb] at hn
        simp only [Instr.findNow, hs]
        exact ih.1 hn
      · intro u hu
        rw [List.lookup, hb] at hu
        obtain ⟨j, hj⟩ := ih.2 u hu
        exact ⟨j, by simp only [Instr.findNow, hs]; exact hj⟩

/-- the element at a key, or the zero value -/
def atK (E : Me α) (l : List (Int × α)) (x : Int) : α := (l.lookup x).getD E.zero

theorem Mp.find (h : Mp E w b l) (x : Int) : ∃ es clock, w.heap[b]? = some (.map es clock) ∧ es.toList.map (fun e => (e.key, e.val)) = l.map (fun p => (Value.int .i64 p.1, E.val p.2)) ∧
    (l.lookup x = none → (Instr.findKey 2 (.int .i64 x) es.toList).run Try.prog w = .ok none w) ∧
    (∀ v, l.lookup x = some v → ∃ j, (Instr.findKey 2 (.int .i64 x) es.toList).run Try.prog w = .ok (some (j, E.val v)) w) := by
  obtain ⟨es, clock, hb, he⟩ := h
  have hf := findNow_at E x es.toList l 0 he
  refine ⟨es, clock, hb, he, fun hn => MapKept.run_findKey Try.underlying2 (hf.1 hn), fun v hv => ?_⟩
  obtain ⟨j, hj⟩ := hf.2 v hv
  exact ⟨j, MapKept.run_findKey Try.underlying2 hj⟩

theorem Mp.look_ok (h : Mp E w b l) (x : Int) : (Instr.lookup E.ty (.map (some b)) (.int .i64 x) true).run Try.prog w = .ok (.tuple #[E.val (atK E l x), .bool (l.lookup x).isSome]) w := by
  obtain ⟨es, clock, hb, _, h0, h1⟩ := h.find x
  cases hx : l.lookup x with
  | none =>
    have := h0 hx
    simp [Instr.lookup, run_underlying E.und, MapKept.run_getObj_map hb, MapKept.run_checkKey (d := .int .i64) Try.underlying2 (k := .int .i64 x) rfl _ 9999, this, E.hz, Result.andThen, atK, hx]
  | some v =>
    obtain ⟨j, this⟩ := h1 v hx
    simp [Instr.lookup, run_underlying E.und, MapKept.run_getObj_map hb, MapKept.run_checkKey (d := .int .i64) Try.underlying2 (k := .int .i64 x) rfl _ 9999, this, Result.andThen, atK, hx]
theorem Mp.look (h : Mp E w b l) (x : Int) : (Instr.lookup E.ty (.map (some b)) (.int .i64 x) false).run Try.prog w = .ok (E.val (atK E l x)) w := by
  obtain ⟨es, clock, hb, _, h0, h1⟩ := h.find x
  cases hx : l.lookup x with
  | none =>
    have := h0 hx
    simp [Instr.lookup, run_underlying E.und, MapKept.run_getObj_map hb, MapKept.run_checkKey (d := .int .i64) Try.underlying2 (k := .int .i64 x) rfl _ 9999, this, E.hz, Result.andThen, atK, hx]
  | some v =>
    obtain ⟨j, this⟩ := h1 v hx
    simp [Instr.lookup, run_underlying E.und, MapKept.run_getObj_map hb, MapKept.run_checkKey (d := .int .i64) Try.underlying2 (k := .int .i64 x) rfl _ 9999, this, Result.andThen, atK, hx]
theorem Mp.len (h : Mp E w b l) (t : TypeId) : (Builtin.len_ #[E.ty] t #[.map (some b)]).run Try.prog w = .ok (.int .i64 (l.length : Int)) w := by
  obtain ⟨es, clock, hb, he⟩ := h
  have hl : es.size = l.length := by
    have := congrArg List.length he
    simpa using this
  simp [Builtin.len_, run_underlying E.und, MapKept.run_getObj_map hb, hl, goInt]
theorem Mp.put (h : Mp E w b l) {x : Int} (hx : l.lookup x = none) (v : α) :
    ∃ w', (Instr.mapUpdate E.ty (.map (some b)) (.int .i64 x) (E.val v)).run Try.prog w = .ok () w' ∧ Mp E w' b (l ++ [(x, v)]) ∧ w.grownBy w' (some b) := by
  obtain ⟨es, clock, hb, he, h0, _⟩ := h.find x
  have h0' := h0 hx
  refine ⟨{ w with heap := w.heap.setIfInBounds b (.map (es.push ⟨.int .i64 x, E.val v, clock⟩) (clock + 1)) }, ?_, ⟨_, _, (MapKept.heap_set hb).1, ?_⟩, ⟨rfl, rfl, rfl, by simp, fun i _ hi => (MapKept.heap_set hb).2 i (fun e => hi (by rw [e]))⟩⟩
  · simp [Instr.mapUpdate, run_underlying E.und, MapKept.run_getObj_map hb, MapKept.run_checkKey (d := .int .i64) Try.underlying2 (k := .int .i64 x) rfl _ 9999, h0', MapKept.run_setObj_map _ hb, Result.andThen]
  · simp [he]
/-- The walk's law: m[x] = v at a key that is not there. -/
theorem wpList_put {ops : Array Oper} {rest : List Oper} {o : Oper} {a : Act} {Q : Exit → Act → World → Prop} (hg : o.guard = none) (m k v : Operand) (E : Me α) (hop : o.op = Op.mapUpdate E.ty m k v)
    (b : Nat) (l : List (Int × α)) (hm : a.eval m = .map (some b)) (h : Mp E w b l) (x : Int) (hx : a.eval k = .int .i64 x) (u : α) (hv : a.eval v = E.val u) (hno : l.lookup x = none)
    (hK : ∀ w', Mp E w' b (l ++ [(x, u)]) → w.grownBy w' (some b) → wpList Try.prog ops Q rest (a.put o.dst undef) w') : wpList Try.prog ops Q (o :: rest) a w := by
  refine wpList_plain hg fun K' hK' => ?_
  obtain ⟨w', hrun, r1, r2⟩ := h.put hno u
  unfold Oper.wp
  simp [execOp, hop, hm, hx, hv, hrun, Result.andThen]
  exact hK' _ _ (hK w' r1 r2)
end
theorem lookup_snoc {α : Type} (l : List (Int × α)) (x y : Int) (v : α) : (l ++ [(y, v)]).lookup x = (l.lookup x).or (if x = y then some v else none) := by
  induction l with
  | nil => simp [List.lookup]; split <;> simp_all
  | cons p t ih =>
    obtain ⟨k, u⟩ := p
    rw [List.cons_append, List.lookup, List.lookup]
    cases hxk : x == k
    · exact ih
    · rfl

/-- places: the curve and the index -/
def plE : Me (Int × Int) where
  val p := .agg #[.int .i64 p.1, .int .i64 p.2]
  ty := 59
  elt := 63
  zero := (0, 0)
  und := Try.underlying59
  hz w := by kernel_rfl
/-- numbers -/
def nmE : Me Int where
  val x := .int .i64 x
  ty := 120
  elt := 2
  zero := 0
  und := Try.underlying120
  hz w := by kernel_rfl
end Go.Proofs.Ytnjojnnapdhijaa
