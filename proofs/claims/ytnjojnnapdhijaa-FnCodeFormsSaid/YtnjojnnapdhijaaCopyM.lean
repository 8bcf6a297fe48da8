/-
  Words for maps with int64 keys that the call makes and only adds to: what a look-up, a store at a new key and len do. Conditions: none.
  Plain lemmas: valid codes. Conditions: none; nothing of the program is named here.
  Plain lemmas: the elements of a code with their places. Conditions: none; nothing of the program is named here.
  Contract: places, where the elements of a code stand. Conditions: none beyond the lengths.
  Plain lemmas: new numbers for the crossings of a code. Conditions: none; nothing of the program is named here.
  Contracts: crossingOf, renamed. Conditions: none beyond the lengths.
  Contracts: cloneCode, l14Copy. Conditions: none beyond the lengths.
-/
import Derived.Test.YtnjojnnapdhijaaGen
import Derived.Test.YtnjojnnapdhijaaCode1
import Derived.Test.YtnjojnnapdhijaaApp
import Derived.MapKept
import Derived.Maps.OwnOps
namespace Go.Proofs.Ytnjojnnapdhijaa
open Go.RowKit
set_option linter.unusedVariables false

/-- How a map's elements lie, with the types of the map and of its elements. -/
structure Me (α : Type) where
  val : α → Value
  ty : TypeId
  elt : TypeId
  zero : α
  und : Try.prog.underlying ty = some (.map 2 elt)
  hz : ∀ w, (zeroValue elt).run Try.prog w = .ok (val zero) w

/-- Block b is a map that holds the entries l, in this order. -/
def Mp {α : Type} (E : Me α) (w : World) (b : Nat) (l : List (Int × α)) : Prop :=
  ∃ es clock, w.heap[b]? = some (.map es clock) ∧ es.toList.map (fun e => (e.key, e.val)) = l.map (fun p => (Value.int .i64 p.1, E.val p.2))

section
variable {α : Type} {E : Me α} {w w' : World} {b : Nat} {l : List (Int × α)}
theorem Mp.lt (h : Mp E w b l) : b < w.heap.size := by
  obtain ⟨es, clock, hb, _⟩ := h
  exact (Array.getElem?_eq_some_iff.1 hb).1
theorem Mp.keep (h : Mp E w b l) (hk : w'.heap[b]? = w.heap[b]?) : Mp E w' b l := by
  obtain ⟨es, clock, hb, he⟩ := h
  exact ⟨es, clock, hk.trans hb, he⟩
theorem Mp.below (h : Mp E w b l) (hb : Below w.heap.size w w') : Mp E w' b l := h.keep (hb.block b h.lt)
theorem Mp.alloc (h : Mp E w b l) (o : Obj) : Mp E (w.alloc o) b l := h.keep (Below.heap_alloc w o b h.lt)
theorem Mp.drew (h : Mp E w b l) : Mp E w.drew b l := h
theorem Mp.drewN (h : Mp E w b l) (n : Nat) : Mp E (w.drewN n) b l := h
theorem Mp.setFar (h : Mp E w b l) {p : Addr} (hp : b ≠ p.block) (u : Value) : Mp E (w.setCell p u) b l := h.keep (Below.heap_setCell w p u b hp)
theorem Mp.grown {row : Option Nat} (h : Mp E w b l) (hg : w.grownBy w' row) (hne : some b ≠ row) : Mp E w' b l := h.keep (hg.block b h.lt hne)
theorem Mp.made (w : World) (n : Nat) (hn : n = w.heap.size) : Mp E (w.alloc (.map #[] 0)) n [] := by
  subst hn
  exact ⟨#[], 0, heap_alloc_new w _, rfl⟩
/-- A row of the call's own is no map. -/
theorem Mp.own_ne {β : Type} {F : El β} {base : Nat} {A : Option Addr} {c : Nat} {xs : List β} (h : Mp E w b l) (ho : Own F w base A c xs) : some b ≠ blk A := fun e => by
  obtain ⟨es, clock, hb, _⟩ := h
  rcases ho.2 with ⟨hv, h0⟩ | ⟨g, cap, cur, hv, _, hh, _⟩
  · injection hv with hA
    subst hA
    cases e
  · injection hv with hA
    subst hA
    have hgb : b = g := by injection e
    subst hgb
    rw [hb] at hh
    cases hh

theorem findNow_at (E : Me α) (x : Int) : ∀ (es : List MapEntry) (l : List (Int × α)) (i : Nat), es.map (fun e => (e.key, e.val)) = l.map (fun p => (Value.int .i64 p.1, E.val p.2)) →
    (l.lookup x = none → Instr.findNow (.int .i64) (.int .i64 x) es i = some none) ∧ (∀ v, l.lookup x = some v → ∃ j, Instr.findNow (.int .i64) (.int .i64 x) es i = some (some (j, E.val v)))
  | [], [], _, _ => ⟨fun _ => rfl, fun v h => by cases h⟩
  | [], p :: l, _, h => by cases h
  | e :: es, [], _, h => by cases h
  | e :: es, (k, v) :: l, i, h => by
    rw [List.map_cons, List.map_cons] at h
    injection h with h1 h2
    injection h1 with hk hv
    have ih := findNow_at E x es l (i + 1) h2
    have hs : Instr.sameNow (.int .i64) (.int .i64 x) e.key = some (x == k) := by rw [hk]; simp [Instr.sameNow]
    by_cases hx : x = k
    · subst hx
      refine ⟨fun hn => by simp [List.lookup] at hn, fun u hu => ?_⟩
      have hu' : v = u := by simpa [List.lookup] using hu
      subst hu'
      exact ⟨i, by simp [Instr.findNow, hs, hv]⟩
    · have hb : (x == k) = false := by simpa using hx
      rw [hb] at hs
      constructor
      · intro hn
        rw [List.lookup, hb] at hn
        simp only [Instr.findNow, hs]
        exact ih.1 hn
      · intro u hu
        rw [List.lookup, hb] at hu
        obtain ⟨j, hj⟩ := ih.2 u hu
        exact ⟨j, by simp only [Instr.findNow, hs]; exact hj⟩

/-- the element at a key, or the zero value -/
def atK (E : Me α) (l : List (Int × α)) (x : Int) : α := (l.lookup x).getD E.zero

theorem Mp.find (h : Mp E w b l) (x : Int) : ∃ es clock, w.heap[b]? = some (.map es clock) ∧ es.toList.map (fun e => (e.key, e.val)) = l.map (fun p => (Value.int .i64 p.1, E.val p.2)) ∧
    (l.lookup x = none → (Instr.findKey 2 (.int .i64 x) es.toList).run Try.prog w = .ok none w) ∧
    (∀ v, l.lookup x = some v → ∃ j, (Instr.findKey 2 (.int .i64 x) es.toList).run Try.prog w = .ok (some (j, E.val v)) w) := by
  obtain ⟨es, clock, hb, he⟩ := h
  have hf := findNow_at E x es.toList l 0 he
  refine ⟨es, clock, hb, he, fun hn => MapKept.run_findKey Try.underlying2 (hf.1 hn), fun v hv => ?_⟩
  obtain ⟨j, hj⟩ := hf.2 v hv
  exact ⟨j, MapKept.run_findKey Try.underlying2 hj⟩

theorem Mp.look_ok (h : Mp E w b l) (x : Int) : (Instr.lookup E.ty (.map (some b)) (.int .i64 x) true).run Try.prog w = .ok (.tuple #[E.val (atK E l x), .bool (l.lookup x).isSome]) w := by
  obtain ⟨es, clock, hb, _, h0, h1⟩ := h.find x
  cases hx : l.lookup x with
  | none =>
    have := h0 hx
    simp [Instr.lookup, run_underlying E.und, MapKept.run_getObj_map hb, MapKept.run_checkKey (d := .int .i64) Try.underlying2 (k := .int .i64 x) rfl _ 9999, this, E.hz, Result.andThen, atK, hx]
  | some v =>
    obtain ⟨j, this⟩ := h1 v hx
    simp [Instr.lookup, run_underlying E.und, MapKept.run_getObj_map hb, MapKept.run_checkKey (d := .int .i64) Try.underlying2 (k := .int .i64 x) rfl _ 9999, this, Result.andThen, atK, hx]
theorem Mp.look (h : Mp E w b l) (x : Int) : (Instr.lookup E.ty (.map (some b)) (.int .i64 x) false).run Try.prog w = .ok (E.val (atK E l x)) w := by
  obtain ⟨es, clock, hb, _, h0, h1⟩ := h.find x
  cases hx : l.lookup x with
  | none =>
    have := h0 hx
    simp [Instr.lookup, run_underlying E.und, MapKept.run_getObj_map hb, MapKept.run_checkKey (d := .int .i64) Try.underlying2 (k := .int .i64 x) rfl _ 9999, this, E.hz, Result.andThen, atK, hx]
  | some v =>
    obtain ⟨j, this⟩ := h1 v hx
    simp [Instr.lookup, run_underlying E.und, MapKept.run_getObj_map hb, MapKept.run_checkKey (d := .int .i64) Try.underlying2 (k := .int .i64 x) rfl _ 9999, this, Result.andThen, atK, hx]
theorem Mp.len (h : Mp E w b l) (t : TypeId) : (Builtin.len_ #[E.ty] t #[.map (some b)]).run Try.prog w = .ok (.int .i64 (l.length : Int)) w := by
  obtain ⟨es, clock, hb, he⟩ := h
  have hl : es.size = l.length := by
    have := congrArg List.length he
    simpa using this
  simp [Builtin.len_, run_underlying E.und, MapKept.run_getObj_map hb, hl, goInt]
theorem Mp.put (h : Mp E w b l) {x : Int} (hx : l.lookup x = none) (v : α) :
    ∃ w', (Instr.mapUpdate E.ty (.map (some b)) (.int .i64 x) (E.val v)).run Try.prog w = .ok () w' ∧ Mp E w' b (l ++ [(x, v)]) ∧ w.grownBy w' (some b) := by
  obtain ⟨es, clock, hb, he, h0, _⟩ := h.find x
  have h0' := h0 hx
  refine ⟨{ w with heap := w.heap.setIfInBounds b (.map (es.push ⟨.int .i64 x, E.val v, clock⟩) (clock + 1)) }, ?_, ⟨_, _, (MapKept.heap_set hb).1, ?_⟩, ⟨rfl, rfl, rfl, by simp, fun i _ hi => (MapKept.heap_set hb).2 i (fun e => hi (by rw [e]))⟩⟩
  · simp [Instr.mapUpdate, run_underlying E.und, MapKept.run_getObj_map hb, MapKept.run_checkKey (d := .int .i64) Try.underlying2 (k := .int .i64 x) rfl _ 9999, h0', MapKept.run_setObj_map _ hb, Result.andThen]
  · simp [he]
/-- The walk's law: m[x] = v at a key that is not there. -/
theorem wpList_put {ops : Array Oper} {rest : List Oper} {o : Oper} {a : Act} {Q : Exit → Act → World → Prop} (hg : o.guard = none) (m k v : Operand) (E : Me α) (hop : o.op = Op.mapUpdate E.ty m k v)
    (b : Nat) (l : List (Int × α)) (hm : a.eval m = .map (some b)) (h : Mp E w b l) (x : Int) (hx : a.eval k = .int .i64 x) (u : α) (hv : a.eval v = E.val u) (hno : l.lookup x = none)
    (hK : ∀ w', Mp E w' b (l ++ [(x, u)]) → w.grownBy w' (some b) → wpList Try.prog ops Q rest (a.put o.dst undef) w') : wpList Try.prog ops Q (o :: rest) a w := by
  refine wpList_plain hg fun K' hK' => ?_
  obtain ⟨w', hrun, r1, r2⟩ := h.put hno u
  unfold Oper.wp
  simp [execOp, hop, hm, hx, hv, hrun, Result.andThen]
  exact hK' _ _ (hK w' r1 r2)
end
theorem lookup_snoc {α : Type} (l : List (Int × α)) (x y : Int) (v : α) : (l ++ [(y, v)]).lookup x = (l.lookup x).or (if x = y then some v else none) := by
  induction l with
  | nil => simp [List.lookup]; split <;> simp_all
  | cons p t ih =>
    obtain ⟨k, u⟩ := p
    rw [List.cons_append, List.lookup, List.lookup]
    cases hxk : x == k
    · exact ih
    · rfl

/-- places: the curve and the index -/
def plE : Me (Int × Int) where
  val p := .agg #[.int .i64 p.1, .int .i64 p.2]
  ty := 59
  elt := 63
  zero := (0, 0)
  und := Try.underlying59
  hz w := by kernel_rfl
/-- numbers -/
def nmE : Me Int where
  val x := .int .i64 x
  ty := 120
  elt := 2
  zero := 0
  und := Try.underlying120
  hz w := by kernel_rfl
end Go.Proofs.Ytnjojnnapdhijaa

namespace Go.Proofs.Ytnjojnnapdhijaa
open Go.RowKit
set_option linter.unusedVariables false

/-- the elements so far are good: apart, not zero, and at most n -/
def Good (n : Nat) (l : List Int) : Prop := l.Nodup ∧ ∀ x ∈ l, x ≠ 0 ∧ -(n : Int) ≤ x ∧ x ≤ n
instance (n : Nat) (l : List Int) : Decidable (Good n l) := by unfold Good; infer_instance
def VCode (code : List (List Int)) : Prop := code.length ≤ 40 ∧ sumLen code % 2 = 0 ∧ sumLen code / 2 ≤ 120 ∧ Good (sumLen code / 2) code.flatten
instance (code : List (List Int)) : Decidable (VCode code) := by unfold VCode; infer_instance
def validC (code : List (List Int)) : Bool := decide (VCode code)
theorem Good.nil (n : Nat) : Good n [] := ⟨List.nodup_nil, fun x h => by simp at h⟩
theorem Good.snoc {n : Nat} {l : List Int} {x : Int} (h : Good n l) (h0 : x ≠ 0) (h1 : -(n : Int) ≤ x) (h2 : x ≤ n) (h3 : x ∉ l) : Good n (l ++ [x]) := by
  refine ⟨?_, fun y hy => ?_⟩
  · rw [List.nodup_append]
    refine ⟨h.1, by simp, fun a ha b hb => ?_⟩
    simp at hb
    subst hb
    intro e
    exact h3 (e ▸ ha)
  · rw [List.mem_append, List.mem_singleton] at hy
    rcases hy with hy | hy
    · exact h.2 y hy
    · subst hy
      exact ⟨h0, h1, h2⟩
/-- the elements up to row i, index k -/
def upTo (code : List (List Int)) (i k : Nat) : List Int := (code.take i).flatten ++ (code.getD i []).take k
theorem upTo_zero (code : List (List Int)) : upTo code 0 0 = [] := by simp [upTo]
theorem getD_row {code : List (List Int)} {i : Nat} {xs : List Int} (h : code[i]? = some xs) : code.getD i [] = xs := by
  rw [List.getD_eq_getElem?_getD, h]; rfl
theorem upTo_next {code : List (List Int)} {i k : Nat} {xs : List Int} {x : Int} (h : code[i]? = some xs) (hx : xs[k]? = some x) : upTo code i (k + 1) = upTo code i k ++ [x] := by
  unfold upTo
  rw [getD_row h, List.take_add_one, hx, List.append_assoc]
  rfl
theorem upTo_row {code : List (List Int)} {i k : Nat} {xs : List Int} (h : code[i]? = some xs) (hk : xs.length ≤ k) : upTo code i k = upTo code (i + 1) 0 := by
  unfold upTo
  rw [getD_row h, List.take_of_length_le hk, List.take_add_one, h, List.flatten_append]
  simp
theorem upTo_all {code : List (List Int)} {i : Nat} (h : code.length ≤ i) : upTo code i 0 = code.flatten := by
  unfold upTo
  rw [List.take_of_length_le h]
  simp
theorem upTo_prefix {code : List (List Int)} {i k : Nat} {xs : List Int} {x : Int} (h : code[i]? = some xs) (hx : xs[k]? = some x) : ∃ t, code.flatten = upTo code i k ++ x :: t := by
  have hi := (List.getElem?_eq_some_iff.1 h).1
  have hk := (List.getElem?_eq_some_iff.1 hx).1
  refine ⟨xs.drop (k + 1) ++ (code.drop (i + 1)).flatten, ?_⟩
  unfold upTo
  rw [getD_row h]
  have e1 : code = code.take i ++ xs :: code.drop (i + 1) := by
    have e2 := (List.take_append_drop i code).symm
    rw [List.drop_eq_getElem_cons hi] at e2
    rw [List.getElem?_eq_getElem hi] at h
    injection h with h
    rw [h] at e2
    exact e2
  have e3 : xs = xs.take k ++ x :: xs.drop (k + 1) := by
    have e2 := (List.take_append_drop k xs).symm
    rw [List.drop_eq_getElem_cons hk] at e2
    rw [List.getElem?_eq_getElem hk] at hx
    injection hx with hx
    rw [hx] at e2
    exact e2
  have e4 : code.flatten = (code.take i).flatten ++ (xs ++ (code.drop (i + 1)).flatten) := by
    conv => lhs; rw [e1]
    rw [List.flatten_append, List.flatten_cons]
  rw [e4]
  conv => lhs; rw [e3]
  simp
theorem bad_range {code : List (List Int)} {n i k : Nat} {xs : List Int} {x : Int} (h : code[i]? = some xs) (hx : xs[k]? = some x) (hb : x < -(n : Int) ∨ (n : Int) < x ∨ x = 0) : ¬ Good n code.flatten := fun hg => by
  obtain ⟨t, e⟩ := upTo_prefix h hx
  have := hg.2 x (by rw [e]; simp)
  omega
theorem bad_twice {code : List (List Int)} {n i k : Nat} {xs : List Int} {x : Int} (h : code[i]? = some xs) (hx : xs[k]? = some x) (hb : x ∈ upTo code i k) : ¬ Good n code.flatten := fun hg => by
  obtain ⟨t, e⟩ := upTo_prefix h hx
  have hn := hg.1
  rw [e, List.nodup_append] at hn
  exact hn.2.2 x hb x (by simp) rfl
/-- which numbers have been met -/
def seenL (n : Nat) (l : List Int) : List Bool := (List.range (2 * n + 1)).map fun j : Nat => decide ((j : Int) - (n : Int) ∈ l)
theorem seenL_length (n : Nat) (l : List Int) : (seenL n l).length = 2 * n + 1 := by simp [seenL]
theorem seenL_nil (n : Nat) : seenL n [] = List.replicate (2 * n + 1) false := by
  apply List.ext_getElem?
  intro i
  simp only [seenL, List.getElem?_map, List.getElem?_replicate]
  by_cases h : i < 2 * n + 1
  · rw [List.getElem?_range h, if_pos h]
    simp
  · rw [List.getElem?_eq_none (by simp; omega), if_neg h]
    rfl
theorem seenL_at {n m : Nat} {l : List Int} {x : Int} (hm : x + (n : Int) = (m : Int)) (hx : m < 2 * n + 1) : (seenL n l)[m]? = some (decide (x ∈ l)) := by
  simp only [seenL, List.getElem?_map]
  rw [List.getElem?_range hx, Option.map_some, show (m : Int) - (n : Int) = x by omega]
theorem seenL_set {n m : Nat} {l : List Int} {x : Int} (hm : x + (n : Int) = (m : Int)) (hx : m < 2 * n + 1) : (seenL n l).set m true = seenL n (l ++ [x]) := by
  apply List.ext_getElem?
  intro i
  by_cases h : m = i
  · subst h
    rw [List.getElem?_set_self (by rw [seenL_length]; exact hx), seenL_at hm hx]
    simp
  · rw [List.getElem?_set_ne h]
    simp only [seenL, List.getElem?_map]
    by_cases h2 : i < 2 * n + 1
    · rw [List.getElem?_range h2]
      simp only [Option.map_some, Option.some.injEq, decide_eq_decide, List.mem_append, List.mem_singleton]
      constructor
      · exact .inl
      · intro h3
        rcases h3 with h3 | h3
        · exact h3
        · omega
    · rw [List.getElem?_eq_none (by simp; omega)]
      rfl
theorem validC_long {code : List (List Int)} (h : 40 < code.length) : validC code = false := decide_eq_false fun hv => by have := hv.1; omega
theorem validC_odd {code : List (List Int)} (h : sumLen code % 2 ≠ 0) : validC code = false := decide_eq_false fun hv => h hv.2.1
theorem validC_many {code : List (List Int)} (h : 120 < sumLen code / 2) : validC code = false := decide_eq_false fun hv => by have := hv.2.2.1; omega
theorem validC_good {code : List (List Int)} {N : Nat} (h1 : code.length ≤ 40) (h2 : sumLen code = 2 * N) (h3 : N ≤ 120) : validC code = decide (Good N code.flatten) := by
  have e : sumLen code / 2 = N := by omega
  apply decide_eq_decide.2
  constructor
  · intro h
    have := h.2.2.2
    rwa [e] at this
  · intro h
    refine ⟨h1, by omega, by omega, ?_⟩
    rw [e]
    exact h
theorem validC_true {code : List (List Int)} (h : validC code = true) : ∃ N, code.length ≤ 40 ∧ sumLen code = 2 * N ∧ N ≤ 120 ∧ Good N code.flatten := by
  obtain ⟨h1, h2, h3, h4⟩ := of_decide_eq_true h
  exact ⟨sumLen code / 2, h1, by omega, h3, h4⟩
theorem flatten_len (code : List (List Int)) : code.flatten.length = sumLen code := by
  unfold sumLen
  rw [List.length_flatten]
end Go.Proofs.Ytnjojnnapdhijaa

namespace Go.Proofs.Ytnjojnnapdhijaa
open Go.RowKit
set_option linter.unusedVariables false

/-- the elements of a row with their places -/
def posRow (c : Nat) (xs : List Int) : List (Int × Int × Int) := xs.mapIdx fun i x => (x, (c : Int), (i : Int))
/-- the elements up to row i, index k, with their places -/
def posTo (code : List (List Int)) (i k : Nat) : List (Int × Int × Int) := ((code.take i).mapIdx posRow).flatten ++ (posRow i (code.getD i [])).take k
/-- all elements with their places -/
def posC (code : List (List Int)) : List (Int × Int × Int) := (code.mapIdx posRow).flatten
theorem posRow_at {c i : Nat} {xs : List Int} {x : Int} (h : xs[i]? = some x) : (posRow c xs)[i]? = some (x, (c : Int), (i : Int)) := by
  simp [posRow, List.getElem?_mapIdx, h]
theorem posRow_length (c : Nat) (xs : List Int) : (posRow c xs).length = xs.length := by simp [posRow]
theorem posTo_zero (code : List (List Int)) : posTo code 0 0 = [] := by simp [posTo]
theorem posTo_next {code : List (List Int)} {i k : Nat} {xs : List Int} {x : Int} (h : code[i]? = some xs) (hx : xs[k]? = some x) : posTo code i (k + 1) = posTo code i k ++ [(x, (i : Int), (k : Int))] := by
  unfold posTo
  rw [getD_row h, List.take_add_one, posRow_at hx, List.append_assoc]
  rfl
theorem posTo_row {code : List (List Int)} {i k : Nat} {xs : List Int} (h : code[i]? = some xs) (hk : xs.length ≤ k) : posTo code i k = posTo code (i + 1) 0 := by
  have hi := (List.getElem?_eq_some_iff.1 h).1
  unfold posTo
  rw [getD_row h, List.take_of_length_le (show (posRow i xs).length ≤ k by rw [posRow_length]; exact hk), List.take_add_one, h, Option.toList_some, List.mapIdx_append, List.flatten_append]
  have hm : min i code.length = i := by omega
  simp [hm]
theorem posTo_all {code : List (List Int)} {i : Nat} (h : code.length ≤ i) : posTo code i 0 = posC code := by
  unfold posTo posC
  rw [List.take_of_length_le h]
  simp
theorem posTo_rest (code : List (List Int)) : ∀ (d i : Nat), d = code.length - i → ∃ t, posC code = posTo code i 0 ++ t
  | 0, i, hd => ⟨[], by rw [posTo_all (by omega), List.append_nil]⟩
  | d + 1, i, hd => by
    have hi : i < code.length := by omega
    obtain ⟨t, ht⟩ := posTo_rest code d (i + 1) (by omega)
    have hx : code[i]? = some code[i] := List.getElem?_eq_getElem hi
    rw [← posTo_row hx (Nat.le_refl _)] at ht
    refine ⟨(posRow i code[i]) ++ t, ?_⟩
    rw [ht, ← List.append_assoc]
    congr 1
    unfold posTo
    rw [getD_row hx, List.take_of_length_le (show (posRow i code[i]).length ≤ code[i].length by rw [posRow_length]; exact Nat.le_refl _)]
    simp
theorem posC_split {code : List (List Int)} {i k : Nat} {xs : List Int} {x : Int} (h : code[i]? = some xs) (hx : xs[k]? = some x) : ∃ t, posC code = posTo code i k ++ (x, (i : Int), (k : Int)) :: t := by
  have hk := (List.getElem?_eq_some_iff.1 hx).1
  obtain ⟨t, ht⟩ := posTo_rest code _ (i + 1) rfl
  rw [← posTo_row h (Nat.le_refl _)] at ht
  refine ⟨(posRow i xs).drop (k + 1) ++ t, ?_⟩
  rw [ht]
  unfold posTo
  rw [getD_row h, List.take_of_length_le (show (posRow i xs).length ≤ xs.length by rw [posRow_length]; exact Nat.le_refl _)]
  have hr := posRow_at (c := i) hx
  have e2 := (List.take_append_drop k (posRow i xs)).symm
  rw [List.drop_eq_getElem_cons (by rw [posRow_length]; exact hk)] at e2
  rw [List.getElem?_eq_getElem (by rw [posRow_length]; exact hk)] at hr
  injection hr with hr
  rw [hr] at e2
  conv => lhs; rw [e2]
  simp
theorem posRow_fst (c : Nat) (xs : List Int) : (posRow c xs).map Prod.fst = xs := by
  apply List.ext_getElem?
  intro i
  simp only [posRow, List.getElem?_map, List.getElem?_mapIdx]
  cases xs[i]? <;> rfl
theorem posC_fst (code : List (List Int)) : (posC code).map Prod.fst = code.flatten := by
  unfold posC
  rw [List.map_flatten]
  congr 1
  apply List.ext_getElem?
  intro i
  simp only [List.getElem?_map, List.getElem?_mapIdx]
  cases code[i]? with
  | none => rfl
  | some xs => simp [posRow_fst]
theorem posTo_fst (code : List (List Int)) (i k : Nat) : (posTo code i k).map Prod.fst = upTo code i k := by
  unfold posTo upTo
  rw [List.map_append, List.map_take, posRow_fst]
  have := posC_fst (code.take i)
  unfold posC at this
  rw [this]
theorem posRow_mem {c : Nat} {xs : List Int} {x a b : Int} (h : (x, a, b) ∈ posRow c xs) : ∃ bn : Nat, a = (c : Int) ∧ b = (bn : Int) ∧ xs[bn]? = some x := by
  obtain ⟨n, hn⟩ := List.mem_iff_getElem?.1 h
  simp only [posRow, List.getElem?_mapIdx] at hn
  cases hx : xs[n]? with
  | none => rw [hx] at hn; cases hn
  | some y =>
    rw [hx] at hn
    simp at hn
    exact ⟨n, hn.2.1.symm, hn.2.2.symm, by rw [hx, hn.1]⟩
theorem posTo_mem {code : List (List Int)} {i k : Nat} {x a b : Int} (h : (x, a, b) ∈ posTo code i k) :
    ∃ (an bn : Nat) (xs : List Int), a = (an : Int) ∧ b = (bn : Int) ∧ code[an]? = some xs ∧ xs[bn]? = some x ∧ (an < i ∨ (an = i ∧ bn < k)) := by
  unfold posTo at h
  rw [List.mem_append] at h
  rcases h with h | h
  · obtain ⟨r, hr, hx⟩ := List.mem_flatten.1 h
    obtain ⟨n, hn⟩ := List.mem_iff_getElem?.1 hr
    rw [List.getElem?_mapIdx, List.getElem?_take] at hn
    split at hn
    · rename_i hlt
      cases hc : code[n]? with
      | none => rw [hc] at hn; cases hn
      | some xs =>
        rw [hc] at hn
        simp at hn
        subst hn
        obtain ⟨bn, h1, h2, h3⟩ := posRow_mem hx
        exact ⟨n, bn, xs, h1, h2, hc, h3, .inl hlt⟩
    · cases hn
  · obtain ⟨n, hn⟩ := List.mem_iff_getElem?.1 h
    rw [List.getElem?_take] at hn
    split at hn
    · rename_i hlt
      cases hc : code[i]? with
      | none =>
        rw [List.getD_eq_getElem?_getD, hc] at hn
        simp [posRow] at hn
      | some xs =>
        rw [getD_row hc] at hn
        simp only [posRow, List.getElem?_mapIdx] at hn
        cases hx : xs[n]? with
        | none => rw [hx] at hn; cases hn
        | some y =>
          rw [hx] at hn
          simp at hn
          exact ⟨i, n, xs, hn.2.1.symm, hn.2.2.symm, hc, by rw [hx, hn.1], .inr ⟨rfl, hlt⟩⟩
    · cases hn
theorem posC_mem {code : List (List Int)} {x a b : Int} (h : (x, a, b) ∈ posC code) : ∃ (an bn : Nat) (xs : List Int), a = (an : Int) ∧ b = (bn : Int) ∧ code[an]? = some xs ∧ xs[bn]? = some x := by
  rw [← posTo_all (Nat.le_refl code.length)] at h
  obtain ⟨an, bn, xs, h1, h2, h3, h4, _⟩ := posTo_mem h
  exact ⟨an, bn, xs, h1, h2, h3, h4⟩
theorem lookup_none {α : Type} {l : List (Int × α)} {x : Int} : l.lookup x = none ↔ x ∉ l.map Prod.fst := by
  induction l with
  | nil => simp
  | cons p t ih =>
    obtain ⟨k, v⟩ := p
    rw [List.lookup, List.map_cons, List.mem_cons]
    cases hx : x == k
    · have hne : x ≠ k := by simpa using hx
      simp only [ih, hne, false_or]
    · have he : x = k := by simpa using hx
      simp [he]
theorem lookup_some_mem {α : Type} {l : List (Int × α)} {x : Int} {v : α} (h : l.lookup x = some v) : (x, v) ∈ l := by
  induction l with
  | nil => cases h
  | cons p t ih =>
    obtain ⟨k, u⟩ := p
    rw [List.lookup] at h
    cases hx : x == k
    · rw [hx] at h
      exact List.mem_cons_of_mem _ (ih h)
    · rw [hx] at h
      have he : x = k := by simpa using hx
      injection h with h
      subst he h
      exact List.mem_cons_self
theorem lookup_append {α : Type} (l m : List (Int × α)) (x : Int) : (l ++ m).lookup x = (l.lookup x).or (m.lookup x) := by
  induction l with
  | nil => simp
  | cons p t ih =>
    obtain ⟨k, v⟩ := p
    rw [List.cons_append, List.lookup, List.lookup]
    cases hx : x == k
    · exact ih
    · rfl
/-- where an element stands first -/
def placeOf (code : List (List Int)) (x : Int) : Option (Int × Int) := (posC code).lookup x
theorem placeOf_first {code : List (List Int)} {i k : Nat} {xs : List Int} {x : Int} (h : code[i]? = some xs) (hx : xs[k]? = some x) (hn : x ∉ upTo code i k) : placeOf code x = some ((i : Int), (k : Int)) := by
  obtain ⟨t, ht⟩ := posC_split h hx
  unfold placeOf
  rw [ht, lookup_append, lookup_none.2 (by rw [posTo_fst]; exact hn)]
  simp [List.lookup]
theorem placeOf_again {code : List (List Int)} {i k : Nat} {xs : List Int} {x : Int} (h : code[i]? = some xs) (hx : xs[k]? = some x) (ho : x ∈ upTo code i k) : ∃ a b : Int, placeOf code x = some (a, b) ∧ ¬ (a = (i : Int) ∧ b = (k : Int)) := by
  obtain ⟨t, ht⟩ := posC_split h hx
  have hm : (posTo code i k).lookup x ≠ none := fun e => lookup_none.1 e (by rw [posTo_fst]; exact ho)
  cases hl : (posTo code i k).lookup x with
  | none => exact absurd hl hm
  | some p =>
    obtain ⟨a, b⟩ := p
    refine ⟨a, b, ?_, fun e => ?_⟩
    · unfold placeOf
      rw [ht, lookup_append, hl]
      rfl
    · obtain ⟨an, bn, ys, h1, h2, _, _, h3⟩ := posTo_mem (lookup_some_mem hl)
      omega
theorem placeOf_none {code : List (List Int)} {x : Int} : placeOf code x = none ↔ x ∉ code.flatten := by
  unfold placeOf
  rw [lookup_none, posC_fst]
theorem placeOf_some {code : List (List Int)} {x a b : Int} (h : placeOf code x = some (a, b)) : ∃ (an bn : Nat) (xs : List Int), a = (an : Int) ∧ b = (bn : Int) ∧ code[an]? = some xs ∧ xs[bn]? = some x := posC_mem (lookup_some_mem h)
/-- the first place at which p holds -/
theorem find_hit {code : List (List Int)} {p : Int × Int × Int → Bool} {i k : Nat} {xs : List Int} {x : Int} (h : code[i]? = some xs) (hx : xs[k]? = some x) (hn : (posTo code i k).find? p = none) (hp : p (x, (i : Int), (k : Int)) = true) : (posC code).find? p = some (x, (i : Int), (k : Int)) := by
  obtain ⟨t, ht⟩ := posC_split h hx
  rw [ht, List.find?_append, hn, List.find?_cons, hp]
  rfl
theorem find_next {code : List (List Int)} {p : Int × Int × Int → Bool} {i k : Nat} {xs : List Int} {x : Int} (h : code[i]? = some xs) (hx : xs[k]? = some x) (hn : (posTo code i k).find? p = none) (hp : p (x, (i : Int), (k : Int)) = false) : (posTo code i (k + 1)).find? p = none := by
  rw [posTo_next h hx, List.find?_append, hn, List.find?_cons, hp]
  rfl
end Go.Proofs.Ytnjojnnapdhijaa

namespace Go.Proofs.Ytnjojnnapdhijaa
open Go.RowKit
set_option linter.unusedVariables false

/-- A function that hands back the places of a code. -/
def RetMp (w : World) (code : List (List Int)) (e : Ending) (w' : World) : Prop :=
  ∃ b l, e = .returned (.map (some b)) ∧ w.heap.size ≤ b ∧ Mp plE w' b l ∧ Hid (∀ x, l.lookup x = placeOf code x) ∧ Below w.heap.size w w'
theorem lookP_add {l : List (Int × Int × Int)} {code : List (List Int)} {i k : Nat} {xs : List Int} {x : Int} (h : code[i]? = some xs) (hx : xs[k]? = some x) (hl : ∀ y, l.lookup y = (posTo code i k).lookup y) :
    ∀ y, (l ++ [(x, (i : Int), (k : Int))]).lookup y = (posTo code i (k + 1)).lookup y := fun y => by
  rw [posTo_next h hx, lookup_append, lookup_append, hl]
theorem lookP_old {l : List (Int × Int × Int)} {code : List (List Int)} {i k : Nat} {xs : List Int} {x : Int} (h : code[i]? = some xs) (hx : xs[k]? = some x) (hl : ∀ y, l.lookup y = (posTo code i k).lookup y) {p : Int × Int} (hp : l.lookup x = some p) :
    ∀ y, l.lookup y = (posTo code i (k + 1)).lookup y := fun y => by
  rw [posTo_next h hx, lookup_append, hl]
  cases hy : (posTo code i k).lookup y with
  | some q => rfl
  | none =>
    by_cases hxy : y = x
    · subst hxy
      rw [← hl, hp] at hy
      cases hy
    · have : (y == x) = false := by simpa using hxy
      simp [List.lookup, this]

set_option maxRecDepth 100000 in
set_option maxHeartbeats 4000000 in
theorem places_any (A : Option Addr) (c T : Nat) (code : List (List Int)) (w : World) (hc : RC w T A code) (hn : code.length + sumLen code ≤ 1048576) :
    Calls Try.prog 56 #[.slice A code.length c] w (RetMp w code) := by
  have hmm := @run_makeMap Try.prog
  have hcl : code.length ≤ 1048576 := by omega
  have H0 : Hid (∀ x, List.lookup x ([] : List (Int × Int × Int)) = (posTo code 0 0).lookup x) := hide (fun x => by rw [posTo_zero])
  go_enter Try.func56, Try.ntmps56
  go_wp2_with fail
  go_loopw [13] (fun s5 wr => ∃ (i : Nat) (l : List (Int × Int × Int)), i ≤ code.length ∧ s5 = .int .i64 i ∧ Hid (∀ x, l.lookup x = (posTo code i 0).lookup x) ∧ Mp plE wr w.heap.size l ∧ Below w.heap.size w wr) (fun s5 _ => code.length - (intOf s5).toNat)
  case atStart => exact ⟨0, [], Nat.zero_le _, rfl, H0, Mp.made w _ rfl, (Below.refl _ _).alloc (Nat.le_refl _) _⟩
  case round =>
    clear H0 hmm
    obtain ⟨i, l, hi, rfl, hl, hmp, hB⟩ := hrel
    obtain ⟨wo, rfl⟩ : ∃ wo : World, wo = wr := ⟨_, rfl⟩
    by_cases hlt : i < code.length
    · obtain ⟨b, off, B, d, xs, rfl, hb, hx, hce, hd1, hd2, hr⟩ := hc.row hlt
      have hce1 := (hB.cell (p := ⟨b, off + i, none⟩) hb).trans hce
      have hxl := sumLen_row hx
      have HX := hide hx
      clear hx hd1 hd2
      go_wp2_with fail
      go_loopw [20] (fun s6 wr => ∃ (k : Nat) (l : List (Int × Int × Int)), k ≤ xs.length ∧ s6 = .int .i64 k ∧ Hid (∀ x, l.lookup x = (posTo code i k).lookup x) ∧ Mp plE wr w.heap.size l ∧ Below w.heap.size w wr) (fun s6 _ => xs.length - (intOf s6).toNat)
      case atStart => exact ⟨0, l, Nat.zero_le _, rfl, hl, hmp, hB⟩
      case round =>
        clear hl hmp hce1 hB
        obtain ⟨k, l, hk, rfl, hl, hmp, hB⟩ := hrel
        have hr2 := hr.below hB
        have hz := hB.size
        by_cases hkl : k < xs.length
        · obtain ⟨b2, off2, x, rfl, hb2, hx, hcx⟩ := hr2.at_ hkl
          have hlook := hmp.look_ok x
          obtain ⟨p1, p2, hp⟩ : ∃ p1 p2, atK plE l x = (p1, p2) := ⟨_, _, rfl⟩
          cases hlx : l.lookup x with
          | none =>
            have HL := hide (lookP_add HX.out hx hl.out)
            have hlk : (Instr.lookup 59 (.map (some w.heap.size)) (.int .i64 x) true).run Try.prog wr = .ok (.tuple #[.agg #[.int .i64 p1, .int .i64 p2], .bool false]) wr := by
              have := hlook
              rw [hp, hlx] at this
              exact this
            have HN := hide hlx
            clear hx hlook hp hlx
            go_wp2_with (at_mapUpdate; refine wpList_put rfl (.tmp 33) (.tmp 34) (.tmp 37) plE rfl w.heap.size l rfl (hmp.alloc _) x rfl ((i : Int), (k : Int)) rfl HN.out ?_; intro w2 hmp2 hg2)
            go_roundw
            case rel => exact ⟨k + 1, _, by omega, by go_num, HL, hmp2, (hB.alloc hz _).grown hg2 (by simp; omega) (fun k hk => by injection hk with hk; omega)⟩
            case measure => simp [intOf]; omega
          | some q =>
            have HL := hide (lookP_old HX.out hx hl.out hlx)
            have hlk : (Instr.lookup 59 (.map (some w.heap.size)) (.int .i64 x) true).run Try.prog wr = .ok (.tuple #[.agg #[.int .i64 p1, .int .i64 p2], .bool true]) wr := by
              have := hlook
              rw [hp, hlx] at this
              exact this
            clear hx hlook hp hlx
            go_wp2_with fail
            go_roundw
            case rel => exact ⟨k + 1, l, by omega, by go_num, HL, hmp.alloc _, hB.alloc hz _⟩
            case measure => simp [intOf]; omega
        · have HL : Hid (∀ x, l.lookup x = (posTo code (i + 1) 0).lookup x) := hide (by rw [← posTo_row (k := k) HX.out (by omega)]; exact hl.out)
          go_wp2_with fail
          go_roundw
          case rel => exact ⟨i + 1, l, by omega, by go_num, HL, hmp, hB⟩
          case measure => simp [intOf]; omega
    · have HL : Hid (∀ x, l.lookup x = placeOf code x) := hide (fun x => by rw [hl.out, posTo_all (by omega)]; rfl)
      go_wp2_with fail
      go_ret
      exact ⟨w.heap.size, l, rfl, Nat.le_refl _, hmp, HL, hB⟩
end Go.Proofs.Ytnjojnnapdhijaa

namespace Go.Proofs.Ytnjojnnapdhijaa
open Go.RowKit
set_option linter.unusedVariables false

/-- the crossing of an element -/
def crI (x : Int) : Int := max x (-x) - 1
/-- one more crossing -/
def numStep (acc : List (Int × Int)) (c : Int) : List (Int × Int) := if acc.lookup c = none then acc ++ [(c, (acc.length : Int))] else acc
/-- the crossings of a list, each with its number, in the order in which they are met -/
def numsL (l : List Int) : List (Int × Int) := l.foldl (fun acc x => numStep acc (crI x)) []
/-- numbers within bounds -/
def NumOk (acc : List (Int × Int)) : Prop := ∀ c v, acc.lookup c = some v → 0 ≤ v ∧ v < (acc.length : Int)
theorem lookup_snoc2 {α : Type} (l : List (Int × α)) (x y : Int) (v : α) : (l ++ [(y, v)]).lookup x = (l.lookup x).or (if x = y then some v else none) := by
  rw [lookup_append]
  congr 1
  by_cases h : x = y
  · subst h; simp [List.lookup]
  · have : (x == y) = false := by simpa using h
    simp [List.lookup, this, h]
theorem numOk_snoc {acc : List (Int × Int)} (h : NumOk acc) (c : Int) : NumOk (acc ++ [(c, (acc.length : Int))]) := fun d v hv => by
  rw [lookup_snoc2] at hv
  rw [List.length_append, List.length_singleton]
  cases hd : acc.lookup d with
  | some u =>
    rw [hd] at hv
    injection hv with hv
    have := h d u hd
    omega
  | none =>
    rw [hd] at hv
    simp at hv
    omega
theorem numStep_ok {acc : List (Int × Int)} (h : NumOk acc) (c : Int) : NumOk (numStep acc c) := by
  unfold numStep
  split
  · exact numOk_snoc h c
  · exact h
theorem numStep_len (acc : List (Int × Int)) (c : Int) : (numStep acc c).length ≤ acc.length + 1 := by
  unfold numStep
  split
  · simp
  · omega
theorem numStep_keep {acc : List (Int × Int)} {c d v : Int} (h : acc.lookup d = some v) : (numStep acc c).lookup d = some v := by
  unfold numStep
  split
  · rw [lookup_snoc2, h]; rfl
  · exact h
theorem numStep_has (acc : List (Int × Int)) (c : Int) : ∃ v, (numStep acc c).lookup c = some v := by
  unfold numStep
  split
  · rename_i h
    exact ⟨_, by rw [lookup_snoc2, h, if_pos rfl]; rfl⟩
  · rename_i h
    cases hc : acc.lookup c with
    | none => exact absurd hc h
    | some v => exact ⟨v, rfl⟩
theorem numsL_snoc (l : List Int) (x : Int) : numsL (l ++ [x]) = numStep (numsL l) (crI x) := by
  unfold numsL
  rw [List.foldl_append]
  rfl
theorem numsL_nil : numsL [] = [] := rfl
theorem foldl_num_ok : ∀ (l : List Int) (acc : List (Int × Int)), NumOk acc → NumOk (l.foldl (fun acc x => numStep acc (crI x)) acc)
  | [], acc, h => h
  | x :: t, acc, h => foldl_num_ok t _ (numStep_ok h _)
theorem numsL_ok (l : List Int) : NumOk (numsL l) := foldl_num_ok l [] (fun c v h => by cases h)
theorem foldl_num_len : ∀ (l : List Int) (acc : List (Int × Int)), (l.foldl (fun acc x => numStep acc (crI x)) acc).length ≤ acc.length + l.length
  | [], acc => by simp
  | x :: t, acc => by
    have h1 := foldl_num_len t (numStep acc (crI x))
    have h2 := numStep_len acc (crI x)
    simp only [List.foldl_cons, List.length_cons]
    omega
theorem numsL_len (l : List Int) : (numsL l).length ≤ l.length := by
  have := foldl_num_len l []
  simpa [numsL] using this
theorem foldl_num_keep {d v : Int} : ∀ (l : List Int) (acc : List (Int × Int)), acc.lookup d = some v → (l.foldl (fun acc x => numStep acc (crI x)) acc).lookup d = some v
  | [], acc, h => h
  | x :: t, acc, h => foldl_num_keep t _ (numStep_keep h)
theorem numsL_keep {l m : List Int} {d v : Int} (h : (numsL l).lookup d = some v) : (numsL (l ++ m)).lookup d = some v := by
  unfold numsL
  rw [List.foldl_append]
  exact foldl_num_keep m _ h
/-- the new element -/
def renX (f : Int → Option Int) (x : Int) : Option Int := (f (crI x)).map fun v => if 0 < x then v + 1 else -v - 1
def renRow (f : Int → Option Int) (xs : List Int) : List Int := xs.filterMap (renX f)
def renC (f : Int → Option Int) (code : List (List Int)) : List (List Int) := code.map (renRow f)
def numF (l : List (Int × Int)) (c : Int) : Option Int := l.lookup c
def renameC (code : List (List Int)) : List (List Int) := renC (numF (numsL code.flatten)) code
theorem renRow_next {f : Int → Option Int} {xs : List Int} {k : Nat} {x : Int} (h : xs[k]? = some x) : renRow f (xs.take (k + 1)) = renRow f (xs.take k) ++ (renX f x).toList := by
  unfold renRow
  rw [List.take_add_one, h, List.filterMap_append]
  congr 1
theorem renRow_len (f : Int → Option Int) (xs : List Int) : (renRow f xs).length ≤ xs.length := List.length_filterMap_le _ _
theorem renC_next {f : Int → Option Int} {code : List (List Int)} {i : Nat} {xs : List Int} (h : code[i]? = some xs) : renC f (code.take (i + 1)) = renC f (code.take i) ++ [renRow f xs] := by
  unfold renC
  rw [List.take_add_one, h, List.map_append]
  rfl
theorem renX_up {f : Int → Option Int} {x v : Int} (h : f (crI x) = some v) (hx : 0 < x) : renX f x = some (v + 1) := by unfold renX; rw [h]; simp [hx]
theorem renX_down {f : Int → Option Int} {x v : Int} (h : f (crI x) = some v) (hx : ¬ 0 < x) : renX f x = some (-v - 1) := by unfold renX; rw [h]; simp [hx]
theorem renX_none {f : Int → Option Int} {x : Int} (h : f (crI x) = none) : renX f x = none := by unfold renX; rw [h]; rfl
theorem crI_eq (x : Int) : crI x = (if 0 < x then x else -x) - 1 := by unfold crI; split <;> omega
/-- the numbers as an array: 0 for a crossing that has none -/
def nameL (N : Nat) (acc : List (Int × Int)) : List Int := (List.range (N + 1)).map fun j : Nat => match acc.lookup ((j : Int) - 1) with
  | some v => v + 1
  | none => 0
theorem nameL_length (N : Nat) (acc : List (Int × Int)) : (nameL N acc).length = N + 1 := by simp [nameL]
theorem nameL_nil (N : Nat) : nameL N [] = List.replicate (N + 1) 0 := by
  apply List.ext_getElem?
  intro i
  simp only [nameL, List.getElem?_map, List.getElem?_replicate]
  by_cases h : i < N + 1
  · rw [List.getElem?_range h, if_pos h]; rfl
  · rw [List.getElem?_eq_none (by simp; omega), if_neg h]; rfl
theorem nameL_some {N j : Nat} {acc : List (Int × Int)} {v : Int} (hj : j < N + 1) (h : acc.lookup ((j : Int) - 1) = some v) : (nameL N acc)[j]? = some (v + 1) := by
  simp only [nameL, List.getElem?_map]
  rw [List.getElem?_range hj, Option.map_some, h]
theorem nameL_none {N j : Nat} {acc : List (Int × Int)} (hj : j < N + 1) (h : acc.lookup ((j : Int) - 1) = none) : (nameL N acc)[j]? = some 0 := by
  simp only [nameL, List.getElem?_map]
  rw [List.getElem?_range hj, Option.map_some, h]
theorem nameL_set {N j : Nat} {acc : List (Int × Int)} {v : Int} (hj : j < N + 1) (h : acc.lookup ((j : Int) - 1) = none) : (nameL N acc).set j (v + 1) = nameL N (acc ++ [((j : Int) - 1, v)]) := by
  apply List.ext_getElem?
  intro i
  by_cases hij : j = i
  · subst hij
    rw [List.getElem?_set_self (by rw [nameL_length]; exact hj), nameL_some (v := v) hj]
    rw [lookup_snoc2, h, if_pos rfl]
    rfl
  · rw [List.getElem?_set_ne hij]
    simp only [nameL, List.getElem?_map]
    by_cases h2 : i < N + 1
    · rw [List.getElem?_range h2, Option.map_some, Option.map_some, lookup_snoc2, if_neg (by omega)]
      simp
    · rw [List.getElem?_eq_none (by simp; omega)]
      rfl
/-- the numbers of the crossings that stay -/
def numsW (g : Nat → Bool) : Nat → List (Int × Int)
  | 0 => []
  | n + 1 => if g n = true then numsW g n else numsW g n ++ [((n : Int), ((numsW g n).length : Int))]
theorem numsW_fresh (g : Nat → Bool) : ∀ (n : Nat) (c : Int), (n : Int) ≤ c → (numsW g n).lookup c = none
  | 0, c, h => rfl
  | n + 1, c, h => by
    have ih := numsW_fresh g n c (by omega)
    unfold numsW
    split
    · exact ih
    · rw [lookup_snoc2, ih, if_neg (by omega)]; rfl
theorem numsW_ok (g : Nat → Bool) : ∀ n, NumOk (numsW g n)
  | 0 => fun c v h => by cases h
  | n + 1 => by
    unfold numsW
    split
    · exact numsW_ok g n
    · exact numOk_snoc (numsW_ok g n) _
theorem numsW_len (g : Nat → Bool) : ∀ n, (numsW g n).length ≤ n
  | 0 => Nat.le_refl _
  | n + 1 => by
    have := numsW_len g n
    unfold numsW
    split
    · omega
    · simp; omega
theorem numsW_yes {g : Nat → Bool} {n : Nat} (h : g n = true) : numsW g (n + 1) = numsW g n := by rw [numsW, if_pos h]
theorem numsW_no {g : Nat → Bool} {n : Nat} (h : g n = false) : numsW g (n + 1) = numsW g n ++ [((n : Int), ((numsW g n).length : Int))] := by rw [numsW, if_neg (by simp [h])]
def withoutC (g : Nat → Bool) (code : List (List Int)) : List (List Int) := renC (numF (numsW g (sumLen code / 2))) code
theorem renC_all {f : Int → Option Int} {code : List (List Int)} {i : Nat} (h : code.length ≤ i) : renC f (code.take i) = renC f code := by rw [List.take_of_length_le h]
theorem renC_length (f : Int → Option Int) (code : List (List Int)) : (renC f code).length = code.length := by simp [renC]
theorem renC_sum (f : Int → Option Int) (code : List (List Int)) : sumLen (renC f code) ≤ sumLen code := by
  unfold sumLen renC
  rw [List.map_map]
  induction code with
  | nil => simp
  | cons x t ih =>
    have := renRow_len f x
    simp only [List.map_cons, List.sum_cons, Function.comp] at *
    omega
end Go.Proofs.Ytnjojnnapdhijaa

namespace Go.Proofs.Ytnjojnnapdhijaa
open Go.RowKit
set_option linter.unusedVariables false

theorem OwnC.ge_ {w : World} {base top : Nat} {A : Option Addr} {c : Nat} {code : List (List Int)} (h : OwnC w base top A c code) {g : Nat} (hg : blk A = some g) : base ≤ g ∧ g < top := by
  obtain ⟨hs, h1, h2, h3, h4, h5⟩ := h
  exact ⟨(h1.ge hg).1, h2 g hg⟩
theorem crossingOf_any (x : Int) (w : World) (h1 : -9223372036854775808 < x) (h2 : x ≤ 9223372036854775807) :
    Calls Try.prog 85 #[.int .i64 x] w fun e w' => e = .returned (.int .i64 (crI x)) ∧ w = w' := by
  have wn : IntKind.i64.wrap (-x) = -x := by rw [IntKind.wrap_i64]; omega
  by_cases hlt : x < -x
  · have HV : Hid (crI x = -x - 1) := hide (by unfold crI; omega)
    have wm : IntKind.i64.wrap (-x - 1) = -x - 1 := by rw [IntKind.wrap_i64]; omega
    have hm : max x (-x) = -x := by omega
    go_enter Try.func85, Try.ntmps85
    go_wp2
    go_ret
    rw [HV.out]
    exact ⟨rfl, rfl⟩
  · have HV : Hid (crI x = x - 1) := hide (by unfold crI; omega)
    have wm : IntKind.i64.wrap (x - 1) = x - 1 := by rw [IntKind.wrap_i64]; omega
    have hm : max x (-x) = x := by omega
    go_enter Try.func85, Try.ntmps85
    go_wp2
    go_ret
    rw [HV.out]
    exact ⟨rfl, rfl⟩
theorem Mp.look_nm {w : World} {b : Nat} {l : List (Int × Int)} (h : Mp nmE w b l) {x v : Int} {o : Bool} (hv : (l.lookup x).getD 0 = v) (ho : (l.lookup x).isSome = o) :
    ((Instr.lookup 120 (.map (some b)) (.int .i64 x) true).run Try.prog w = .ok (.tuple #[.int .i64 v, .bool o]) w) ∧
    ((Instr.lookup 120 (.map (some b)) (.int .i64 x) true).run Try.prog w.drew = .ok (.tuple #[.int .i64 v, .bool o]) w.drew) := by
  have key : ∀ {w : World}, Mp nmE w b l → (Instr.lookup 120 (.map (some b)) (.int .i64 x) true).run Try.prog w = .ok (.tuple #[.int .i64 v, .bool o]) w := fun h => by
    have := h.look_ok x
    rw [ho] at this
    unfold atK at this
    rw [show (List.lookup x l).getD nmE.zero = v from hv] at this
    exact this
  exact ⟨key h, key h.drew⟩

set_option maxRecDepth 100000 in
set_option maxHeartbeats 4000000 in
theorem renamed_any (A : Option Addr) (c T mb : Nat) (l : List (Int × Int)) (code : List (List Int)) (w : World) (hc : RC w T A code) (hn : code.length + sumLen code ≤ 1048576) (hm : Mp nmE w mb l)
    (hI : ∀ xs ∈ code, ∀ x ∈ xs, -9223372036854775808 < x ∧ x ≤ 9223372036854775807) (hL : ∀ c v, l.lookup c = some v → 0 ≤ v ∧ v ≤ 1048576) :
    Calls Try.prog 119 #[.slice A code.length c, .map (some mb)] w (RetC w (renC (numF l) code)) := by
  have HI := hide hI
  have HL := hide hL
  have he : OwnC (w.alloc (.cells #[] 34)) w.heap.size (w.alloc (.cells #[] 34)).heap.size (some ⟨w.heap.size, 0, none⟩) 0 [] := (OwnC.empty_ w _ rfl (Nat.le_refl _)).mono (Nat.le_refl _) (by simp)
  clear hI hL
  go_enter Try.func119, Try.ntmps119
  go_wp2_with fail
  go_loopw [5, 16] (fun o i wr => ∃ (k : Nat) (A1 : Option Addr) (c1 : Nat) (zs : List (List Int)), k ≤ code.length ∧ i = .int .i64 k ∧ o = .slice A1 zs.length c1 ∧ Hid (zs = renC (numF l) (code.take k)) ∧ OwnC wr w.heap.size wr.heap.size A1 c1 zs ∧ Below w.heap.size w wr) (fun _ i _ => code.length - (intOf i).toNat)
  case atStart => exact ⟨0, _, 0, [], Nat.zero_le _, rfl, rfl, hide rfl, he, (Below.refl _ _).alloc (Nat.le_refl _) _⟩
  case round =>
    clear he
    obtain ⟨k, A1, c1, zs, hk, rfl, rfl, hzs, own, hB⟩ := hrel
    obtain ⟨wo, rfl⟩ : ∃ wo : World, wo = wr := ⟨_, rfl⟩
    have hz := hB.size
    have hcr := hc.below hB
    have hzl : zs.length ≤ 1048576 := by rw [hzs.out, renC_length, List.length_take]; omega
    by_cases hlt : k < code.length
    · obtain ⟨b, off, B, d, xs, rfl, hb, hx, hcc, hd1, hd2, hR⟩ := hcr.row hlt
      have hxl := sumLen_row hx
      have HX := hide hx
      have hxi := HI.out xs (List.mem_of_getElem? hx)
      have HXI := hide hxi
      clear hx hd1 hd2 hxi
      have hri : OwnI (wo.alloc (.cells #[] 2)) wo.heap.size (some ⟨wo.heap.size, 0, none⟩) 0 [] := OwnI.empty wo (Nat.le_refl _)
      have hBi : Below wo.heap.size wo (wo.alloc (.cells #[] 2)) := (Below.refl _ _).alloc (Nat.le_refl _) _
      go_wp2_with fail
      go_loopw [8, 23] (fun o i wr => ∃ (j : Nat) (A2 : Option Addr) (c2 : Nat) (ys : List Int), j ≤ xs.length ∧ i = .int .i64 j ∧ o = .slice A2 ys.length c2 ∧ Hid (ys = renRow (numF l) (xs.take j)) ∧ OwnI wr wo.heap.size A2 c2 ys ∧ Below wo.heap.size wo wr) (fun _ i _ => xs.length - (intOf i).toNat)
      case atStart => exact ⟨0, _, 0, [], Nat.zero_le _, rfl, rfl, hide rfl, hri, hBi⟩
      case round =>
        clear hri hBi
        obtain ⟨j, A2, c2, ys, hj, rfl, rfl, hys, owni, hBi⟩ := hrel
        have hzi := hBi.size
        have hyl : ys.length ≤ j := by rw [hys.out]; have := renRow_len (numF l) (xs.take j); rw [List.length_take] at this; omega
        have hm2 := hm.below (hB.trans (hBi.mono hz))
        by_cases hjl : j < xs.length
        · obtain ⟨b2, off2, x, rfl, hb2, hx, hcx⟩ := (hR.below hBi).at_ hjl
          obtain ⟨i1, i2⟩ := HXI.out x (List.mem_of_getElem? hx)
          cases hlx : l.lookup (crI x) with
          | none =>
            have HY : Hid (ys = renRow (numF l) (xs.take (j + 1))) := hide (by rw [renRow_next hx, renX_none (show numF l (crI x) = none from hlx), ← hys.out]; simp)
            obtain ⟨k0, k1⟩ := hm2.look_nm (x := crI x) (v := 0) (o := false) (by rw [hlx]; rfl) (by rw [hlx]; rfl)
            clear hx hlx
            go_wp2_with (go_at_call 85; refine (crossingOf_any _ _ i1 i2).mono ?_; rintro e w' ⟨rfl, rfl⟩)
            go_roundw
            case rel => exact ⟨j + 1, A2, c2, ys, by omega, by go_num, rfl, HY, owni, hBi⟩
            case measure => simp [intOf]; omega
          | some v =>
            obtain ⟨v0, v1⟩ := HL.out _ _ hlx
            obtain ⟨k0, k1⟩ := hm2.look_nm (x := crI x) (v := v) (o := true) (by rw [hlx]; rfl) (by rw [hlx]; rfl)
            by_cases hx0 : 0 < x
            · have HY : Hid (ys ++ [v + 1] = renRow (numF l) (xs.take (j + 1))) := hide (by rw [renRow_next hx, renX_up (show numF l (crI x) = some v from hlx) hx0, ← hys.out]; simp)
              have wv : IntKind.i64.wrap (v + 1) = v + 1 := by rw [IntKind.wrap_i64]; omega
              clear hx hlx
              go_wp2_with (first
                | (go_at_call 85; refine (crossingOf_any _ _ i1 i2).mono ?_; rintro e w' ⟨rfl, rfl⟩)
                | (at_builtin; refine wpList_append_ints rfl (.tmp 46) (.tmp 49) rfl wo.heap.size A2 c2 ys rfl (owni.alloc _) (some ⟨wr.heap.size, 0, none⟩) 1 [v + 1] rfl (OwnI.new (base := 0) wr [v + 1] #[.int .i64 (v + 1)] rfl (Nat.zero_le _) (by simp [maxLen])).rd (by simp; omega) (by simp; omega) (ys ++ [v + 1]) rfl ?_; intro A3 c3 w3 own3 hg3 hb3))
              go_roundw
              case rel => exact ⟨j + 1, A3, c3, ys ++ [v + 1], by omega, by go_num, by simp, HY, own3, (hBi.alloc hzi _).grown hg3 (by simp; omega) (fun q hq => (owni.ge hq).1)⟩
              case measure => simp [intOf]; omega
            · have HY : Hid (ys ++ [-v - 1] = renRow (numF l) (xs.take (j + 1))) := hide (by rw [renRow_next hx, renX_down (show numF l (crI x) = some v from hlx) hx0, ← hys.out]; simp)
              have wv : IntKind.i64.wrap (-v) = -v := by rw [IntKind.wrap_i64]; omega
              have wv1 : IntKind.i64.wrap (-v - 1) = -v - 1 := by rw [IntKind.wrap_i64]; omega
              clear hx hlx
              go_wp2_with (first
                | (go_at_call 85; refine (crossingOf_any _ _ i1 i2).mono ?_; rintro e w' ⟨rfl, rfl⟩)
                | (at_builtin; refine wpList_append_ints rfl (.tmp 34) (.tmp 38) rfl wo.heap.size A2 c2 ys rfl (owni.alloc _) (some ⟨wr.heap.size, 0, none⟩) 1 [-v - 1] rfl (OwnI.new (base := 0) wr [-v - 1] #[.int .i64 (-v - 1)] rfl (Nat.zero_le _) (by simp [maxLen])).rd (by simp; omega) (by simp; omega) (ys ++ [-v - 1]) rfl ?_; intro A3 c3 w3 own3 hg3 hb3))
              go_roundw
              case rel => exact ⟨j + 1, A3, c3, ys ++ [-v - 1], by omega, by go_num, by simp, HY, own3, (hBi.alloc hzi _).grown hg3 (by simp; omega) (fun q hq => (owni.ge hq).1)⟩
              case measure => simp [intOf]; omega
        · have hys' := hys.out
          rw [List.take_of_length_le (by omega)] at hys'
          have HZ : Hid (zs ++ [ys] = renC (numF l) (code.take (k + 1))) := hide (by rw [renC_next HX.out, ← hzs.out, hys'])
          have own2 := own.below hBi
          clear hys hys'
          go_wp2_with (at_builtin; refine wpList_append_code rfl (.tmp 52) (.tmp 54) rfl w.heap.size wo.heap.size A1 c1 zs rfl (own2.alloc _) (some ⟨wr.heap.size, 0, none⟩) 1 rfl A2 c2 ys (RG.fresh (E := hdE) wr _ rfl ⟨A2, ys.length, c2⟩ #[.slice A2 ys.length c2] rfl _) (owni.alloc _) hz (by simp; omega) hzl (zs ++ [ys]) rfl ?_; intro A3 c3 w3 own3 hg3 hb3)
          go_roundw
          case rel => exact ⟨k + 1, A3, c3, zs ++ [ys], by omega, by go_num, by simp, HZ, own3, ((hB.trans (hBi.mono hz)).alloc (by omega) _).grown hg3 (by simp; omega) (fun q hq => (own2.ge_ hq).1)⟩
          case measure => simp [intOf]; omega
    · have hzs' := hzs.out
      rw [List.take_of_length_le (by omega)] at hzs'
      have HZ := hide hzs'
      clear hzs hzs'
      go_wp2_with fail
      go_ret
      have := HZ.out
      subst this
      exact ⟨A1, c1, rfl, own, hB⟩
end Go.Proofs.Ytnjojnnapdhijaa

namespace Go.Proofs.Ytnjojnnapdhijaa
open Go.RowKit
set_option linter.unusedVariables false

set_option maxRecDepth 100000 in
set_option maxHeartbeats 2000000 in
theorem cloneCode_any (A : Option Addr) (c T : Nat) (code : List (List Int)) (w : World) (hc : RC w T A code) (hn : code.length + sumLen code ≤ 1048576) :
    Calls Try.prog 80 #[.slice A code.length c] w (RetC w code) := by
  have he : OwnC (w.alloc (.cells #[] 34)) w.heap.size (w.alloc (.cells #[] 34)).heap.size (some ⟨w.heap.size, 0, none⟩) 0 [] := (OwnC.empty_ w _ rfl (Nat.le_refl _)).mono (Nat.le_refl _) (by simp)
  go_enter Try.func80, Try.ntmps80
  go_wp2_with fail
  go_loopw [3, 9] (fun o i wr => ∃ (k : Nat) (A1 : Option Addr) (c1 : Nat) (zs : List (List Int)), k ≤ code.length ∧ i = .int .i64 k ∧ o = .slice A1 zs.length c1 ∧ Hid (zs = code.take k) ∧ OwnC wr w.heap.size wr.heap.size A1 c1 zs ∧ Below w.heap.size w wr) (fun _ i _ => code.length - (intOf i).toNat)
  case atStart => exact ⟨0, _, 0, [], Nat.zero_le _, rfl, rfl, hide rfl, he, (Below.refl _ _).alloc (Nat.le_refl _) _⟩
  case round =>
    clear he
    obtain ⟨k, A1, c1, zs, hk, rfl, rfl, hzs, own, hB⟩ := hrel
    have hz := hB.size
    have hcr := hc.below hB
    have hzl : zs.length ≤ 1048576 := by rw [hzs.out, List.length_take]; omega
    by_cases hlt : k < code.length
    · obtain ⟨b, off, B, d, xs, rfl, hb, hx, hcc, hd1, hd2, hR⟩ := hcr.row hlt
      have hxl := sumLen_row hx
      have HZ : Hid (zs ++ [xs] = code.take (k + 1)) := hide (by rw [List.take_add_one, hx, ← hzs.out]; rfl)
      clear hx hd1 hd2
      go_wp2_with fail
      refine (slicesClone_any _ _ xs _ hR (by omega)).mono ?_
      rintro e w2 ⟨B2, d2, rfl, orow, hb2⟩
      have own2 := own.below hb2
      have hB2 := hB.trans (hb2.mono hz)
      have hz2 := hb2.size
      go_wp2_with (at_builtin; refine wpList_append_code rfl (.tmp 13) (.tmp 16) rfl w.heap.size wr.heap.size A1 c1 zs rfl (own2.alloc _) (some ⟨w2.heap.size, 0, none⟩) 1 rfl B2 d2 xs (RG.fresh (E := hdE) w2 _ rfl ⟨B2, xs.length, d2⟩ #[.slice B2 xs.length d2] rfl _) (orow.alloc _) hz (by simp; omega) hzl (zs ++ [xs]) rfl ?_; intro A3 c3 w3 own3 hg3 hb3)
      go_roundw
      case rel => exact ⟨k + 1, A3, c3, zs ++ [xs], by omega, by go_num, by simp, HZ, own3, (hB2.alloc (by omega) _).grown hg3 (by simp; omega) (fun q hq => (own2.ge_ hq).1)⟩
      case measure => simp [intOf]; omega
    · have hzs' := hzs.out
      rw [List.take_of_length_le (by omega)] at hzs'
      have HZ := hide hzs'
      clear hzs hzs'
      go_wp2_with fail
      go_ret
      have := HZ.out
      subst this
      exact ⟨A1, c1, rfl, own, hB⟩
set_option maxRecDepth 100000 in
set_option maxHeartbeats 2000000 in
theorem l14Copy_any (A : Option Addr) (c T : Nat) (code : List (List Int)) (w : World) (hc : RC w T A code) (hn : code.length + sumLen code ≤ 1048576) :
    Calls Try.prog 101 #[.slice A code.length c] w (RetC w code) := by
  have he : OwnC (w.alloc (.cells #[] 34)) w.heap.size (w.alloc (.cells #[] 34)).heap.size (some ⟨w.heap.size, 0, none⟩) 0 [] := (OwnC.empty_ w _ rfl (Nat.le_refl _)).mono (Nat.le_refl _) (by simp)
  go_enter Try.func101, Try.ntmps101
  go_wp2_with fail
  go_loopw [3, 4] (fun o i wr => ∃ (k : Nat) (A1 : Option Addr) (c1 : Nat) (zs : List (List Int)), k ≤ code.length ∧ i = .int .i64 k ∧ o = .slice A1 zs.length c1 ∧ Hid (zs = code.take k) ∧ OwnC wr w.heap.size wr.heap.size A1 c1 zs ∧ Below w.heap.size w wr) (fun _ i _ => code.length - (intOf i).toNat)
  case atStart => exact ⟨0, _, 0, [], Nat.zero_le _, rfl, rfl, hide rfl, he, (Below.refl _ _).alloc (Nat.le_refl _) _⟩
  case round =>
    clear he
    obtain ⟨k, A1, c1, zs, hk, rfl, rfl, hzs, own, hB⟩ := hrel
    have hz := hB.size
    have hcr := hc.below hB
    have hzl : zs.length ≤ 1048576 := by rw [hzs.out, List.length_take]; omega
    by_cases hlt : k < code.length
    · obtain ⟨b, off, B, d, xs, rfl, hb, hx, hcc, hd1, hd2, hR⟩ := hcr.row hlt
      have hxl := sumLen_row hx
      have HZ : Hid (zs ++ [xs] = code.take (k + 1)) := hide (by rw [List.take_add_one, hx, ← hzs.out]; rfl)
      clear hx hd1 hd2
      go_wp2_with fail
      refine (l00Own_any _ _ xs _ hR (by omega)).mono ?_
      rintro e w2 ⟨B2, d2, rfl, orow, hb2⟩
      have own2 := own.below hb2
      have hB2 := hB.trans (hb2.mono hz)
      have hz2 := hb2.size
      go_wp2_with (at_builtin; refine wpList_append_code rfl (.tmp 12) (.tmp 18) rfl w.heap.size wr.heap.size A1 c1 zs rfl (own2.alloc _) (some ⟨w2.heap.size, 0, none⟩) 1 rfl B2 d2 xs (RG.fresh (E := hdE) w2 _ rfl ⟨B2, xs.length, d2⟩ #[.slice B2 xs.length d2] rfl _) (orow.alloc _) hz (by simp; omega) hzl (zs ++ [xs]) rfl ?_; intro A3 c3 w3 own3 hg3 hb3)
      go_roundw
      case rel => exact ⟨k + 1, A3, c3, zs ++ [xs], by omega, by go_num, by simp, HZ, own3, (hB2.alloc (by omega) _).grown hg3 (by simp; omega) (fun q hq => (own2.ge_ hq).1)⟩
      case measure => simp [intOf]; omega
    · have hzs' := hzs.out
      rw [List.take_of_length_le (by omega)] at hzs'
      have HZ := hide hzs'
      clear hzs hzs'
      go_wp2_with fail
      go_ret
      have := HZ.out
      subst this
      exact ⟨A1, c1, rfl, own, hB⟩
end Go.Proofs.Ytnjojnnapdhijaa
