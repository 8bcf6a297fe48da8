/-
  Plain lemmas: the first fault of a code; elements that are met again after an odd number of others. Conditions: none; nothing of the program is named here.
  Contract: isOdd. Conditions: none beyond the lengths.
  Contract: CodeFault, of the program. Conditions: none beyond the lengths.
  Plain lemmas: elements that follow one another in a code; lists without repetition. Conditions: none; nothing of the program is named here.
-/
import Derived.Test.YtocellbhpjiioaaGreatPosM
import Derived.Test.YtocellbhpjiioaaGreatNamesM
import Derived.Test.YtocellbhpjiioaaGreatCodeOk
import Derived.Deep.DeepCutAuto
import Derived.Deep.RegionHeld3
import Derived.Laws.StructEq
namespace Go.Proofs.YtocellbhpjiioaaGreat
open Go.RowKit
set_option linter.unusedVariables false

/-- Each element stands just where it stands first. -/
def Apart (code : List (List Int)) : Prop := ∀ (i k : Nat) (xs : List Int) (x : Int), code[i]? = some xs → xs[k]? = some x → placeOf code x = some ((i : Int), (k : Int))
theorem apart_of_nodup {code : List (List Int)} (h : code.flatten.Nodup) : Apart code := fun i k xs x h1 h2 => by
  refine placeOf_first h1 h2 (fun ho => ?_)
  obtain ⟨t, e⟩ := upTo_prefix h1 h2
  rw [e, List.nodup_append] at h
  exact h.2.2 x ho x (by simp) rfl
def plc (code : List (List Int)) (x : Int) : Int × Int := (placeOf code x).getD (0, 0)
/-- what isOdd looks at -/
def oddB (p q : Int × Int) : Bool := p.1 == q.1 && decide (p.2 < q.2) && ((q.2 - p.2 - 1) % 2 == 1)
def oddX (code : List (List Int)) (x : Int) : Bool := oddB (plc code x) (plc code (-x))
/-- element k of a row is met again after an odd number of others -/
def oddAt (xs : List Int) (k j : Nat) : Bool := decide (k < j) && (xs.getD j 0 == -(xs.getD k 0)) && decide ((j - k) % 2 = 0)
def oddK (xs : List Int) (k : Nat) : Bool := (List.range xs.length).any (oddAt xs k)
theorem oddK_of {xs : List Int} {k j : Nat} (hj : j < xs.length) (h : oddAt xs k j = true) : oddK xs k = true := by
  unfold oddK
  rw [List.any_eq_true]
  exact ⟨j, by simpa using hj, h⟩
theorem oddK_no {xs : List Int} {k : Nat} (h : ∀ j, j < xs.length → oddAt xs k j = false) : oddK xs k = false := by
  unfold oddK
  rw [List.any_eq_false]
  intro j hj
  rw [h j (by simpa using hj)]
  simp
theorem getD_at {xs : List Int} {k : Nat} {x : Int} (h : xs[k]? = some x) : xs.getD k 0 = x := by rw [List.getD_eq_getElem?_getD, h]; rfl
theorem oddX_eq {code : List (List Int)} (ha : Apart code) {i k : Nat} {xs : List Int} {x : Int} (h : code[i]? = some xs) (hx : xs[k]? = some x) : oddX code x = oddK xs k := by
  have h1 : plc code x = ((i : Int), (k : Int)) := by unfold plc; rw [ha i k xs x h hx]; rfl
  have hg := getD_at hx
  cases hk : oddK xs k
  · unfold oddX
    rw [h1]
    cases ho : oddB ((i : Int), (k : Int)) (plc code (-x))
    · rfl
    · exfalso
      unfold oddB at ho
      simp only [Bool.and_eq_true, beq_iff_eq, decide_eq_true_eq] at ho
      obtain ⟨⟨e1, e2⟩, e3⟩ := ho
      cases hp : placeOf code (-x) with
      | none =>
        unfold plc at e2
        rw [hp] at e2
        simp at e2
        omega
      | some p =>
        obtain ⟨a, b⟩ := p
        obtain ⟨an, bn, ys, q1, q2, q3, q4⟩ := placeOf_some hp
        unfold plc at e1 e2 e3
        rw [hp] at e1 e2 e3
        simp only [Option.getD_some] at e1 e2 e3
        have hai : an = i := by omega
        subst hai
        rw [h] at q3
        injection q3 with q3
        subst q3
        have hb := (List.getElem?_eq_some_iff.1 q4).1
        have : oddK xs k = true := oddK_of hb (by
          unfold oddAt
          rw [hg, getD_at q4]
          simp only [Bool.and_eq_true, decide_eq_true_eq, beq_self_eq_true, and_true]
          omega)
        rw [hk] at this
        cases this
  · unfold oddK at hk
    rw [List.any_eq_true] at hk
    obtain ⟨j, hj, ho⟩ := hk
    have hj' : j < xs.length := by simpa using hj
    unfold oddAt at ho
    simp only [Bool.and_eq_true, beq_iff_eq, decide_eq_true_eq] at ho
    obtain ⟨⟨e1, e2⟩, e3⟩ := ho
    have hxj : xs[j]? = some xs[j] := List.getElem?_eq_getElem hj'
    rw [hg, getD_at hxj] at e2
    have h2 : plc code (-x) = ((i : Int), (j : Int)) := by
      unfold plc
      rw [← e2, ha i j xs _ h hxj]
      rfl
    unfold oddX oddB
    rw [h1, h2]
    simp only [Bool.and_eq_true, beq_iff_eq, decide_eq_true_eq, true_and]
    omega

def manyP (code : List (List Int)) (c : Nat) : Bool := decide (240 < sumLen (code.take (c + 1)))
def halfC (code : List (List Int)) : Int := ((sumLen code : Int) + 1) / 2
def badP (code : List (List Int)) (q : Int × Int × Int) : Bool := q.1 == 0 || !inB q.1 (-halfC code) (halfC code) || placeOf code q.1 != some q.2
def badKind (code : List (List Int)) (q : Int × Int × Int) : Int := if q.1 = 0 then 2 else if inB q.1 (-halfC code) (halfC code) = false then 3 else 4
def absentP (code : List (List Int)) (q : Int × Int × Int) : Bool := placeOf code (-q.1) == none
def oddP (code : List (List Int)) (q : Int × Int × Int) : Bool := oddX code q.1
/-- the first fault of a code -/
def faultC (code : List (List Int)) : Int × Int × Int :=
  if 40 < code.length then (1, 0, 0) else
  match (List.range code.length).find? (manyP code) with
  | some c => (1, (c : Int), 0)
  | none =>
    match (posC code).find? (badP code) with
    | some q => (badKind code q, q.2.1, q.2.2)
    | none =>
      match (posC code).find? (absentP code) with
      | some q => (5, q.2.1, q.2.2)
      | none =>
        match (posC code).find? (oddP code) with
        | some q => (6, q.2.1, q.2.2)
        | none => (0, 0, 0)
theorem fault_long {code : List (List Int)} (h : 40 < code.length) : faultC code = (1, 0, 0) := by unfold faultC; rw [if_pos h]
theorem range_find_hit {p : Nat → Bool} {n k : Nat} (hk : k < n) (h : ∀ j, j < k → p j = false) (hp : p k = true) : (List.range n).find? p = some k := by
  rw [List.find?_range_eq_some]
  exact ⟨hp, by simpa using hk, fun j hj => by simp [h j hj]⟩
theorem range_find_none {p : Nat → Bool} {n : Nat} (h : ∀ j, j < n → p j = false) : (List.range n).find? p = none := by
  rw [List.find?_eq_none]
  intro j hj
  simp [h j (by simpa using hj)]
theorem fault_many {code : List (List Int)} {c : Nat} (h : ¬ 40 < code.length) (hc : c < code.length) (h1 : ∀ j, j < c → manyP code j = false) (h2 : manyP code c = true) : faultC code = (1, (c : Int), 0) := by
  unfold faultC
  rw [if_neg h, range_find_hit hc h1 h2]
theorem fault_bad {code : List (List Int)} {q : Int × Int × Int} (h : ¬ 40 < code.length) (h1 : ∀ j, j < code.length → manyP code j = false) (h2 : (posC code).find? (badP code) = some q) : faultC code = (badKind code q, q.2.1, q.2.2) := by
  unfold faultC
  rw [if_neg h, range_find_none h1, h2]
theorem fault_absent {code : List (List Int)} {q : Int × Int × Int} (h : ¬ 40 < code.length) (h1 : ∀ j, j < code.length → manyP code j = false) (h2 : (posC code).find? (badP code) = none) (h3 : (posC code).find? (absentP code) = some q) : faultC code = (5, q.2.1, q.2.2) := by
  unfold faultC
  rw [if_neg h, range_find_none h1, h2]
  dsimp only
  rw [h3]
theorem fault_odd {code : List (List Int)} {q : Int × Int × Int} (h : ¬ 40 < code.length) (h1 : ∀ j, j < code.length → manyP code j = false) (h2 : (posC code).find? (badP code) = none) (h3 : (posC code).find? (absentP code) = none) (h4 : (posC code).find? (oddP code) = some q) : faultC code = (6, q.2.1, q.2.2) := by
  unfold faultC
  rw [if_neg h, range_find_none h1, h2]
  dsimp only
  rw [h3]
  dsimp only
  rw [h4]
theorem fault_none {code : List (List Int)} (h : ¬ 40 < code.length) (h1 : ∀ j, j < code.length → manyP code j = false) (h2 : (posC code).find? (badP code) = none) (h3 : (posC code).find? (absentP code) = none) (h4 : (posC code).find? (oddP code) = none) : faultC code = (0, 0, 0) := by
  unfold faultC
  rw [if_neg h, range_find_none h1, h2]
  dsimp only
  rw [h3]
  dsimp only
  rw [h4]
theorem many_none {code : List (List Int)} (h : sumLen code ≤ 240) : ∀ j, j < code.length → manyP code j = false := fun j _ => by
  have := sumLen_take_le code (j + 1)
  unfold manyP
  exact decide_eq_false (by omega)
theorem apart_of_bad {code : List (List Int)} (h : (posC code).find? (badP code) = none) : Apart code := fun i k xs x h1 h2 => by
  rw [List.find?_eq_none] at h
  obtain ⟨t, ht⟩ := posC_split h1 h2
  have := h (x, (i : Int), (k : Int)) (by rw [ht]; simp)
  unfold badP at this
  simp at this
  exact this.2
theorem good_of_bad {code : List (List Int)} (h : (posC code).find? (badP code) = none) {i k : Nat} {xs : List Int} {x : Int} (h1 : code[i]? = some xs) (h2 : xs[k]? = some x) : x ≠ 0 ∧ inB x (-halfC code) (halfC code) = true := by
  rw [List.find?_eq_none] at h
  obtain ⟨t, ht⟩ := posC_split h1 h2
  have := h (x, (i : Int), (k : Int)) (by rw [ht]; simp)
  unfold badP at this
  simp at this
  exact this.1
/-- which numbers have been met -/
def flagL (n : Nat) (g : Nat → Int) (l : List Int) : List Bool := (List.range (n + 1)).map fun j : Nat => decide (g j ∈ l)
theorem flagL_length (n : Nat) (g : Nat → Int) (l : List Int) : (flagL n g l).length = n + 1 := by simp [flagL]
theorem flagL_nil (n : Nat) (g : Nat → Int) : flagL n g [] = List.replicate (n + 1) false := by
  apply List.ext_getElem?
  intro i
  simp only [flagL, List.getElem?_map, List.getElem?_replicate]
  by_cases h : i < n + 1
  · rw [List.getElem?_range h, if_pos h]
    simp
  · rw [List.getElem?_eq_none (by simp; omega), if_neg h]
    rfl
theorem flagL_at {n m : Nat} {g : Nat → Int} {l : List Int} (hx : m < n + 1) : (flagL n g l)[m]? = some (decide (g m ∈ l)) := by
  simp only [flagL, List.getElem?_map]
  rw [List.getElem?_range hx, Option.map_some]
theorem flagL_set {n m : Nat} {g : Nat → Int} {l : List Int} {x : Int} (hg : ∀ a b, g a = g b → a = b) (hm : x = g m) (hx : m < n + 1) : (flagL n g l).set m true = flagL n g (l ++ [x]) := by
  apply List.ext_getElem?
  intro i
  by_cases h : m = i
  · subst h
    rw [List.getElem?_set_self (by rw [flagL_length]; exact hx), flagL_at hx]
    simp [hm]
  · rw [List.getElem?_set_ne h]
    simp only [flagL, List.getElem?_map]
    by_cases h2 : i < n + 1
    · rw [List.getElem?_range h2]
      simp only [Option.map_some, Option.some.injEq, decide_eq_decide, List.mem_append, List.mem_singleton]
      constructor
      · exact .inl
      · intro h3
        rcases h3 with h3 | h3
        · exact h3
        · exact absurd (hg _ _ (h3.trans hm)).symm h
    · rw [List.getElem?_eq_none (by simp; omega)]
      rfl
theorem flagL_other {n : Nat} {g : Nat → Int} {l : List Int} {x : Int} (h : ∀ j, g j ≠ x) : flagL n g (l ++ [x]) = flagL n g l := by
  unfold flagL
  apply List.map_congr_left
  intro j _
  simp [h j]
def posG (j : Nat) : Int := (j : Int)
def negG (j : Nat) : Int := -(j : Int)
theorem posG_inj (a b : Nat) (h : posG a = posG b) : a = b := by unfold posG at h; omega
theorem negG_inj (a b : Nat) (h : negG a = negG b) : a = b := by unfold negG at h; omega
end Go.Proofs.YtocellbhpjiioaaGreat

namespace Go.Proofs.YtocellbhpjiioaaGreat
open Go.RowKit
set_option linter.unusedVariables false

theorem plc_bound {code : List (List Int)} (hn : code.length + sumLen code ≤ 1048576) (x : Int) : 0 ≤ (plc code x).1 ∧ (plc code x).1 ≤ 1048576 ∧ 0 ≤ (plc code x).2 ∧ (plc code x).2 ≤ 1048576 := by
  unfold plc
  cases h : placeOf code x with
  | none => simp
  | some p =>
    obtain ⟨a, b⟩ := p
    obtain ⟨an, bn, xs, rfl, rfl, h3, h4⟩ := placeOf_some h
    have h5 := (List.getElem?_eq_some_iff.1 h3).1
    have h6 := (List.getElem?_eq_some_iff.1 h4).1
    have h7 := sumLen_row h3
    simp only [Option.getD_some]
    omega
theorem atK_plc {l : List (Int × Int × Int)} {code : List (List Int)} (hl : ∀ x, l.lookup x = placeOf code x) (x : Int) : atK plE l x = plc code x := by
  unfold atK plc
  rw [hl]
  rfl
/-- what a look-up gives, in the worlds that a statement with two new blocks passes through -/
theorem Mp.look_pl {w : World} {b : Nat} {l : List (Int × Int × Int)} (h : Mp plE w b l) {x p1 p2 : Int} (hp : atK plE l x = (p1, p2)) :
    ((Instr.lookup 85 (.map (some b)) (.int .i64 x) false).run Tryz.prog w = .ok (.agg #[.int .i64 p1, .int .i64 p2]) w) ∧
    (∀ o, (Instr.lookup 85 (.map (some b)) (.int .i64 x) false).run Tryz.prog (w.alloc o) = .ok (.agg #[.int .i64 p1, .int .i64 p2]) (w.alloc o)) ∧
    (∀ o o', (Instr.lookup 85 (.map (some b)) (.int .i64 x) false).run Tryz.prog ((w.alloc o).alloc o') = .ok (.agg #[.int .i64 p1, .int .i64 p2]) ((w.alloc o).alloc o')) ∧
    ((Instr.lookup 85 (.map (some b)) (.int .i64 x) false).run Tryz.prog w.drew = .ok (.agg #[.int .i64 p1, .int .i64 p2]) w.drew) ∧
    (∀ o, (Instr.lookup 85 (.map (some b)) (.int .i64 x) false).run Tryz.prog (w.alloc o).drew = .ok (.agg #[.int .i64 p1, .int .i64 p2]) (w.alloc o).drew) ∧
    (∀ o o', (Instr.lookup 85 (.map (some b)) (.int .i64 x) false).run Tryz.prog ((w.alloc o).alloc o').drew = .ok (.agg #[.int .i64 p1, .int .i64 p2]) ((w.alloc o).alloc o').drew) := by
  have key : ∀ {w : World}, Mp plE w b l → (Instr.lookup 85 (.map (some b)) (.int .i64 x) false).run Tryz.prog w = .ok (.agg #[.int .i64 p1, .int .i64 p2]) w := fun h => by
    have := h.look x
    rw [hp] at this
    exact this
  exact ⟨key h, fun o => key (h.alloc o), fun o o' => key ((h.alloc o).alloc o'), key h.drew, fun o => key (h.alloc o).drew, fun o o' => key ((h.alloc o).alloc o').drew⟩

end Go.Proofs.YtocellbhpjiioaaGreat

namespace Go.Proofs.YtocellbhpjiioaaGreat
open Go.RowKit
set_option linter.unusedVariables false

theorem pl_neq (W : World) (a b c d : Int) : (binOp .neq 101 (.agg #[.int .i64 a, .int .i64 b]) (.agg #[.int .i64 c, .int .i64 d])).run Tryz.prog W = .ok (.bool (!(a == c && b == d))) W := by
  have u3 := Tryz.underlying3
  have hS : Tryz.prog.underlying 101 = some (.struct (Tryz.prog.fieldsOf 101)) := by kernel_rfl
  have hp : Tryz.prog.stoodInHeld 101 = false := by kernel_rfl
  rw [run_neq_struct, show (10000 : Nat) = 9999 + 1 from rfl, run_equalIn_agg W 9999 101 _ _ hS hp]
  simp only [Program.fieldsOf, Tryz.underlying101]
  go_simp
  by_cases h1 : a = c <;> by_cases h2 : b = d <;> simp [h1, h2]
theorem pl_eql (W : World) (a b c d : Int) : (binOp .eql 101 (.agg #[.int .i64 a, .int .i64 b]) (.agg #[.int .i64 c, .int .i64 d])).run Tryz.prog W = .ok (.bool (a == c && b == d)) W := by
  have u3 := Tryz.underlying3
  have hS : Tryz.prog.underlying 101 = some (.struct (Tryz.prog.fieldsOf 101)) := by kernel_rfl
  have hp : Tryz.prog.stoodInHeld 101 = false := by kernel_rfl
  rw [run_eql_struct, show (10000 : Nat) = 9999 + 1 from rfl, run_equalIn_agg W 9999 101 _ _ hS hp]
  simp only [Program.fieldsOf, Tryz.underlying101]
  go_simp
  by_cases h1 : a = c <;> by_cases h2 : b = d <;> simp [h1, h2]
theorem pl_guard (W : World) (op : BinOp) (x y : Operand) (xs ys : Array Value) : (eqGuard op 101 x y (.agg xs) (.agg ys)).run Tryz.prog W = .ok () W := run_eqGuard_agg W op _ x y xs ys (by kernel_rfl)

def fV (p : Int × Int × Int) : Value := .tuple #[.int .i64 p.1, .int .i64 p.2.1, .int .i64 p.2.2]
theorem fV_mk {p : Int × Int × Int} {a b c : Int} (h : p = (a, b, c)) : fV p = .tuple #[.int .i64 a, .int .i64 b, .int .i64 c] := by rw [h]; rfl
theorem inB_abs {x M : Int} (h : inB x (-M) M = true) : -M ≤ x ∧ x ≤ M := inB_true.1 h
theorem half_bound {code : List (List Int)} (h : sumLen code ≤ 240) : 0 ≤ halfC code ∧ halfC code ≤ 120 := by unfold halfC; omega

end Go.Proofs.YtocellbhpjiioaaGreat

namespace Go.Proofs.YtocellbhpjiioaaGreat
open Go.RowKit
set_option linter.unusedVariables false

theorem len_le_of_sub {l : List Int} (hn : l.Nodup) : ∀ {m : List Int}, (∀ x ∈ l, x ∈ m) → l.length ≤ m.length := by
  induction l with
  | nil => intro m h; simp
  | cons a t ih =>
    intro m h
    rw [List.nodup_cons] at hn
    have ha : a ∈ m := h a List.mem_cons_self
    have h1 : ∀ x ∈ t, x ∈ m.erase a := fun x hx => by
      have hxa : x ≠ a := fun e => hn.1 (e ▸ hx)
      exact (List.mem_erase_of_ne hxa).2 (h x (List.mem_cons_of_mem _ hx))
    have h2 := ih hn.2 h1
    have h3 := List.length_erase_of_mem ha
    have h4 : 0 < m.length := List.length_pos_of_mem ha
    rw [List.length_cons]
    omega
/-- all numbers but 0 up to n, both ways -/
def bothL (n : Nat) : List Int := ((List.range n).map fun j : Nat => (j : Int) + 1) ++ (List.range n).map fun j : Nat => -((j : Int) + 1)
theorem bothL_length (n : Nat) : (bothL n).length = 2 * n := by simp [bothL]; omega
theorem bothL_mem {n : Nat} {x : Int} : x ∈ bothL n ↔ x ≠ 0 ∧ -(n : Int) ≤ x ∧ x ≤ n := by
  unfold bothL
  rw [List.mem_append, List.mem_map, List.mem_map]
  constructor
  · rintro (⟨j, hj, rfl⟩ | ⟨j, hj, rfl⟩)
    · have := List.mem_range.1 hj
      omega
    · have := List.mem_range.1 hj
      omega
  · intro h
    rcases Int.lt_or_le 0 x with h0 | h0
    · exact .inl ⟨(x - 1).toNat, List.mem_range.2 (by omega), by omega⟩
    · exact .inr ⟨(-x - 1).toNat, List.mem_range.2 (by omega), by omega⟩
theorem nodup_mapI {f : Nat → Int} {l : List Nat} (hl : l.Nodup) (hf : ∀ a b, f a = f b → a = b) : (l.map f).Nodup := by
  unfold List.Nodup at hl ⊢
  rw [List.pairwise_map]
  exact hl.imp fun h e => h (hf _ _ e)
theorem bothL_nodup (n : Nat) : (bothL n).Nodup := by
  unfold bothL
  rw [List.nodup_append]
  refine ⟨nodup_mapI List.nodup_range (fun a b h => by omega), nodup_mapI List.nodup_range (fun a b h => by omega), fun a ha b hb => ?_⟩
  obtain ⟨j, hj, rfl⟩ := List.mem_map.1 ha
  obtain ⟨k, hk, rfl⟩ := List.mem_map.1 hb
  omega
/-- In a good list of all its numbers each is met. -/
theorem Good.all {n : Nat} {l : List Int} (h : Good n l) (hl : l.length = 2 * n) {x : Int} (h0 : x ≠ 0) (h1 : -(n : Int) ≤ x) (h2 : x ≤ n) : x ∈ l := by
  by_cases hx : x ∈ l
  · exact hx
  · exfalso
    have hsub : ∀ y ∈ l, y ∈ (bothL n).erase x := fun y hy => by
      have hyx : y ≠ x := fun e => hx (e ▸ hy)
      exact (List.mem_erase_of_ne hyx).2 (bothL_mem.2 (h.2 y hy))
    have h3 := len_le_of_sub h.1 hsub
    have hm : x ∈ bothL n := bothL_mem.2 ⟨h0, h1, h2⟩
    rw [List.length_erase_of_mem hm, bothL_length] at h3
    have := List.length_pos_of_mem hm
    rw [bothL_length] at this
    omega
theorem valid_has {code : List (List Int)} (h : validC code = true) {x : Int} (h0 : x ≠ 0) (h1 : -((sumLen code / 2 : Nat) : Int) ≤ x) (h2 : x ≤ ((sumLen code / 2 : Nat) : Int)) : x ∈ code.flatten := by
  obtain ⟨N, g1, g2, g3, g4⟩ := validC_true h
  have e : sumLen code / 2 = N := by omega
  rw [e] at h1 h2
  exact g4.all (by rw [flatten_len]; exact g2) h0 h1 h2
theorem valid_apart' {code : List (List Int)} (h : validC code = true) : Apart code := by
  obtain ⟨N, h1, h2, h3, h4⟩ := validC_true h
  exact apart_of_nodup h4.1
theorem valid_sum {code : List (List Int)} (h : validC code = true) : code.length ≤ 40 ∧ sumLen code ≤ 240 ∧ sumLen code / 2 ≤ 120 := by
  obtain ⟨N, h1, h2, h3, h4⟩ := validC_true h
  omega
theorem apart_of_mem {code : List (List Int)} (ha : Apart code) {x : Int} (h : x ∈ code.flatten) : ∃ (i k : Nat) (xs : List Int), code[i]? = some xs ∧ xs[k]? = some x ∧ placeOf code x = some ((i : Int), (k : Int)) := by
  obtain ⟨xs, h1, h2⟩ := List.mem_flatten.1 h
  obtain ⟨i, hi⟩ := List.mem_iff_getElem?.1 h1
  obtain ⟨k, hk⟩ := List.mem_iff_getElem?.1 h2
  exact ⟨i, k, xs, hi, hk, ha i k xs x hi hk⟩

/-- two neighbours are a and b, in either order -/
def nbB (x y a b : Int) : Bool := (x == a && y == b) || (x == b && y == a)
def nxtK (xs : List Int) (a b : Int) (k : Nat) : Bool := nbB (xs.getD k 0) (xs.getD ((k + 1) % xs.length) 0) a b
def nxtRow (a b : Int) (xs : List Int) : Bool := (List.range xs.length).any (nxtK xs a b)
def nextC (code : List (List Int)) (a b : Int) : Bool := code.any (nxtRow a b)
/-- the same by places -/
def folB (code : List (List Int)) (p q : Int × Int) : Bool :=
  p.1 == q.1 && !(p.2 == q.2) && ((p.2 + 1) % ((code.getD p.1.toNat []).length : Int) == q.2 || (q.2 + 1) % ((code.getD p.1.toNat []).length : Int) == p.2)
theorem modN (k n : Nat) : ((k : Int) + 1) % (n : Int) = (((k + 1) % n : Nat) : Int) := by
  rw [Int.natCast_emod]; rfl
theorem nbB_iff {x y a b : Int} : nbB x y a b = true ↔ (x = a ∧ y = b) ∨ (x = b ∧ y = a) := by simp [nbB]
theorem nxtRow_iff {a b : Int} {xs : List Int} : nxtRow a b xs = true ↔ ∃ (k : Nat) (x y : Int), xs[k]? = some x ∧ xs[(k + 1) % xs.length]? = some y ∧ ((x = a ∧ y = b) ∨ (x = b ∧ y = a)) := by
  unfold nxtRow
  rw [List.any_eq_true]
  constructor
  · rintro ⟨k, hk, h⟩
    have hk := List.mem_range.1 hk
    have hm : (k + 1) % xs.length < xs.length := Nat.mod_lt _ (by omega)
    unfold nxtK at h
    rw [nbB_iff, getD_at (List.getElem?_eq_getElem hk), getD_at (List.getElem?_eq_getElem hm)] at h
    exact ⟨k, xs[k], xs[(k + 1) % xs.length], List.getElem?_eq_getElem hk, List.getElem?_eq_getElem hm, h⟩
  · rintro ⟨k, x, y, h1, h2, h⟩
    refine ⟨k, List.mem_range.2 (List.getElem?_eq_some_iff.1 h1).1, ?_⟩
    unfold nxtK
    rw [nbB_iff, getD_at h1, getD_at h2]
    exact h
theorem fol_next {code : List (List Int)} (ha : Apart code) {a b : Int} {i k j m : Nat} {xs ys : List Int} (hi : code[i]? = some xs) (hk : xs[k]? = some a) (hj : code[j]? = some ys) (hm : ys[m]? = some b) (hab : a ≠ b) :
    folB code ((i : Int), (k : Int)) ((j : Int), (m : Int)) = nextC code a b := by
  have e0 : (code.getD ((i : Int)).toNat []) = xs := by rw [show ((i : Int)).toNat = i by omega]; exact getD_row hi
  rw [Bool.eq_iff_iff]
  unfold folB nextC
  dsimp only
  rw [e0, modN, modN, List.any_eq_true]
  simp only [Bool.and_eq_true, Bool.or_eq_true, beq_iff_eq, Bool.not_eq_true', beq_eq_false_iff_ne, ne_eq]
  constructor
  · rintro ⟨⟨h1, h2⟩, h3⟩
    have hij : i = j := by omega
    subst hij
    rw [hi] at hj
    injection hj with hj
    subst hj
    refine ⟨xs, List.mem_of_getElem? hi, nxtRow_iff.2 ?_⟩
    rcases h3 with h3 | h3
    · exact ⟨k, a, b, hk, by rw [show (k + 1) % xs.length = m by omega]; exact hm, .inl ⟨rfl, rfl⟩⟩
    · exact ⟨m, b, a, hm, by rw [show (m + 1) % xs.length = k by omega]; exact hk, .inr ⟨rfl, rfl⟩⟩
  · rintro ⟨zs, hz, h⟩
    obtain ⟨n, hn⟩ := List.mem_iff_getElem?.1 hz
    obtain ⟨t, x, y, h1, h2, h3⟩ := nxtRow_iff.1 h
    have pa := ha i k xs a hi hk
    have pb := ha j m ys b hj hm
    have px := ha n t zs x hn h1
    have py := ha n _ zs y hn h2
    rcases h3 with ⟨rfl, rfl⟩ | ⟨rfl, rfl⟩
    · rw [pa] at px
      rw [pb] at py
      simp only [Option.some.injEq, Prod.mk.injEq] at px py
      have e1 : i = n := by omega
      have e2 : j = n := by omega
      have e3 : k = t := by omega
      subst e1 e2 e3
      rw [hi] at hn
      injection hn with hn
      subst hn
      rw [hi] at hj
      injection hj with hj
      subst hj
      have hkm : k ≠ m := fun e => hab (by subst e; rw [hk] at hm; injection hm)
      exact ⟨⟨rfl, by omega⟩, .inl (by omega)⟩
    · rw [pa] at py
      rw [pb] at px
      simp only [Option.some.injEq, Prod.mk.injEq] at px py
      have e1 : i = n := by omega
      have e2 : j = n := by omega
      have e3 : m = t := by omega
      subst e1 e2 e3
      rw [hi] at hn
      injection hn with hn
      subst hn
      rw [hi] at hj
      injection hj with hj
      subst hj
      have hkm : k ≠ m := fun e => hab (by subst e; rw [hk] at hm; injection hm)
      exact ⟨⟨rfl, by omega⟩, .inr (by omega)⟩
/-- In a valid code: elements that follow one another, by their places. -/
theorem fol_valid {code : List (List Int)} (h : validC code = true) {a b : Int} (h1 : a ∈ code.flatten) (h2 : b ∈ code.flatten) (hab : a ≠ b) : folB code (plc code a) (plc code b) = nextC code a b := by
  have ha := valid_apart' h
  obtain ⟨i, k, xs, hi, hk, p1⟩ := apart_of_mem ha h1
  obtain ⟨j, m, ys, hj, hm, p2⟩ := apart_of_mem ha h2
  unfold plc
  rw [p1, p2]
  exact fol_next ha hi hk hj hm hab

def loopK (code : List (List Int)) (k : Nat) : Bool := nextC code ((k : Int) + 1) (-(k : Int) - 1)
def pairK (code : List (List Int)) (a b : Nat) : Bool := nextC code ((a : Int) + 1) ((b : Int) + 1) && nextC code (-(a : Int) - 1) (-(b : Int) - 1)
def loopsL (code : List (List Int)) (m : Nat) : List Int := ((List.range m).filter (loopK code)).map Int.ofNat
theorem loopsL_yes {code : List (List Int)} {k : Nat} (h : loopK code k = true) : loopsL code (k + 1) = loopsL code k ++ [(k : Int)] := by
  unfold loopsL
  rw [List.range_succ, List.filter_append, List.map_append]
  simp [h]
theorem loopsL_no {code : List (List Int)} {k : Nat} (h : loopK code k = false) : loopsL code (k + 1) = loopsL code k := by
  unfold loopsL
  rw [List.range_succ, List.filter_append, List.map_append]
  simp [h]
theorem loopsL_len (code : List (List Int)) (m : Nat) : (loopsL code m).length ≤ m := by
  unfold loopsL
  rw [List.length_map]
  have := List.length_filter_le (loopK code) (List.range m)
  rw [List.length_range] at this
  exact this
/-- the pairs of a with numbers above it and below m -/
def pairsA (code : List (List Int)) (a m : Nat) : List (List Int) := ((List.range m).filter fun b => decide (a < b) && pairK code a b).map fun b : Nat => [(a : Int), (b : Int)]
theorem pairsA_yes {code : List (List Int)} {a b : Nat} (hab : a < b) (h : pairK code a b = true) : pairsA code a (b + 1) = pairsA code a b ++ [[(a : Int), (b : Int)]] := by
  unfold pairsA
  rw [List.range_succ, List.filter_append, List.map_append]
  simp [h, hab]
theorem pairsA_no {code : List (List Int)} {a b : Nat} (h : pairK code a b = false) : pairsA code a (b + 1) = pairsA code a b := by
  unfold pairsA
  rw [List.range_succ, List.filter_append, List.map_append]
  simp [h]
theorem pairsA_first (code : List (List Int)) (a : Nat) : pairsA code a (a + 1) = [] := by
  unfold pairsA
  rw [List.map_eq_nil_iff, List.filter_eq_nil_iff]
  intro b hb
  have := List.mem_range.1 hb
  simp
  omega
theorem pairsA_all (code : List (List Int)) {a N : Nat} (h : N ≤ a + 1) : pairsA code a N = [] := by
  unfold pairsA
  rw [List.map_eq_nil_iff, List.filter_eq_nil_iff]
  intro b hb
  have := List.mem_range.1 hb
  simp
  omega
def pairsL (code : List (List Int)) (N m : Nat) : List (List Int) := ((List.range m).map fun a => pairsA code a N).flatten
theorem pairsL_next (code : List (List Int)) (N m : Nat) : pairsL code N (m + 1) = pairsL code N m ++ pairsA code m N := by
  unfold pairsL
  rw [List.range_succ, List.map_append, List.flatten_append]
  simp
theorem pairsA_len (code : List (List Int)) (a m : Nat) : (pairsA code a m).length ≤ m := by
  unfold pairsA
  rw [List.length_map]
  have := List.length_filter_le (fun b => decide (a < b) && pairK code a b) (List.range m)
  rw [List.length_range] at this
  exact this
theorem pairsA_sum (code : List (List Int)) (a m : Nat) : sumLen (pairsA code a m) = 2 * (pairsA code a m).length := by
  unfold pairsA sumLen
  induction (List.range m).filter fun b => decide (a < b) && pairK code a b with
  | nil => rfl
  | cons x t ih =>
    simp only [List.map_cons, List.sum_cons, List.length_cons, List.length_nil] at ih ⊢
    omega
theorem sumLen_app (l m : List (List Int)) : sumLen (l ++ m) = sumLen l + sumLen m := by
  unfold sumLen
  rw [List.map_append, List.sum_append]
theorem pairsL_len (code : List (List Int)) (N m : Nat) : (pairsL code N m).length ≤ m * N ∧ sumLen (pairsL code N m) = 2 * (pairsL code N m).length := by
  induction m with
  | zero => simp [pairsL, sumLen]
  | succ m ih =>
    rw [pairsL_next, List.length_append, sumLen_app, pairsA_sum]
    have := pairsA_len code m N
    rw [Nat.succ_mul]
    omega
end Go.Proofs.YtocellbhpjiioaaGreat
