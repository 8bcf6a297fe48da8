/-
  Plain lemmas: the first fault of a code; elements that are met again after an odd number of others. Conditions: none; nothing of the program is named here.
  Contracts: l15Turn, turned (over slices.Concat, slices.Grow). Conditions: none beyond the lengths.
  Contract: slices.Reverse at a row of integers of the call's own. Conditions: none beyond the lengths.
  Plain lemmas: elements that follow one another in a code; lists without repetition. Conditions: none; nothing of the program is named here.
-/
import Derived.Test.YtnjojnnapdhijaaCopyM
import Derived.Test.YtnjojnnapdhijaaCmpM
import Derived.Test.YtnjojnnapdhijaaDrawDM
import Derived.Shelf.Spec.SlicesGrow
import Derived.Shelf.SlGeneric
import Derived.Deep.RegionHeld3
import Derived.Deep.DeepCutAuto
namespace Go.Proofs.Ytnjojnnapdhijaa
open Go.RowKit
set_option linter.unusedVariables false

/-- Each element stands just where it stands first. -/
def Apart (code : List (List Int)) : Prop := ∀ (i k : Nat) (xs : List Int) (x : Int), code[i]? = some xs → xs[k]? = some x → placeOf code x = some ((i : Int), (k : Int))
theorem apart_of_nodup {code : List (List Int)} (h : code.flatten.Nodup) : Apart code := fun i k xs x h1 h2 => by
  refine placeOf_first h1 h2 (fun ho => ?_)
  obtain ⟨t, e⟩ := upTo_prefix h1 h2
  rw [e, List.nodup_append] at h
  exact h.2.2 x ho x (by simp) rfl
def plc (code : List (List Int)) (x : Int) : Int × Int := (placeOf code x).getD (0, 0)
/-- what isOdd looks at -/
def oddB (p q : Int × Int) : Bool := p.1 == q.1 && decide (p.2 < q.2) && ((q.2 - p.2 - 1) % 2 == 1)
def oddX (code : List (List Int)) (x : Int) : Bool := oddB (plc code x) (plc code (-x))
/-- element k of a row is met again after an odd number of others -/
def oddAt (xs : List Int) (k j : Nat) : Bool := decide (k < j) && (xs.getD j 0 == -(xs.getD k 0)) && decide ((j - k) % 2 = 0)
def oddK (xs : List Int) (k : Nat) : Bool := (List.range xs.length).any (oddAt xs k)
theorem oddK_of {xs : List Int} {k j : Nat} (hj : j < xs.length) (h : oddAt xs k j = true) : oddK xs k = true := by
  unfold oddK
  rw [List.any_eq_true]
  exact ⟨j, by simpa using hj, h⟩
theorem oddK_no {xs : List Int} {k : Nat} (h : ∀ j, j < xs.length → oddAt xs k j = false) : oddK xs k = false := by
  unfold oddK
  rw [List.any_eq_false]
  intro j hj
  rw [h j (by simpa using hj)]
  simp
theorem getD_at {xs : List Int} {k : Nat} {x : Int} (h : xs[k]? = some x) : xs.getD k 0 = x := by rw [List.getD_eq_getElem?_getD, h]; rfl
theorem oddX_eq {code : List (List Int)} (ha : Apart code) {i k : Nat} {xs : List Int} {x : Int} (h : code[i]? = some xs) (hx : xs[k]? = some x) : oddX code x = oddK xs k := by
  have h1 : plc code x = ((i : Int), (k : Int)) := by unfold plc; rw [ha i k xs x h hx]; rfl
  have hg := getD_at hx
  cases hk : oddK xs k
  · unfold oddX
    rw [h1]
    cases ho : oddB ((i : Int), (k : Int)) (plc code (-x))
    · rfl
    · exfalso
      unfold oddB at ho
      simp only [Bool.and_eq_true, beq_iff_eq, decide_eq_true_eq] at ho
      obtain ⟨⟨e1, e2⟩, e3⟩ := ho
      cases hp : placeOf code (-x) with
      | none =>
        unfold plc at e2
        rw [hp] at e2
        simp at e2
        omega
      | some p =>
        obtain ⟨a, b⟩ := p
        obtain ⟨an, bn, ys, q1, q2, q3, q4⟩ := placeOf_some hp
        unfold plc at e1 e2 e3
        rw [hp] at e1 e2 e3
        simp only [Option.getD_some] at e1 e2 e3
        have hai : an = i := by omega
        subst hai
        rw [h] at q3
        injection q3 with q3
        subst q3
        have hb := (List.getElem?_eq_some_iff.1 q4).1
        have : oddK xs k = true := oddK_of hb (by
          unfold oddAt
          rw [hg, getD_at q4]
          simp only [Bool.and_eq_true, decide_eq_true_eq, beq_self_eq_true, and_true]
          omega)
        rw [hk] at this
        cases this
  · unfold oddK at hk
    rw [List.any_eq_true] at hk
    obtain ⟨j, hj, ho⟩ := hk
    have hj' : j < xs.length := by simpa using hj
    unfold oddAt at ho
    simp only [Bool.and_eq_true, beq_iff_eq, decide_eq_true_eq] at ho
    obtain ⟨⟨e1, e2⟩, e3⟩ := ho
    have hxj : xs[j]? = some xs[j] := List.getElem?_eq_getElem hj'
    rw [hg, getD_at hxj] at e2
    have h2 : plc code (-x) = ((i : Int), (j : Int)) := by
      unfold plc
      rw [← e2, ha i j xs _ h hxj]
      rfl
    unfold oddX oddB
    rw [h1, h2]
    simp only [Bool.and_eq_true, beq_iff_eq, decide_eq_true_eq, true_and]
    omega

def manyP (code : List (List Int)) (c : Nat) : Bool := decide (240 < sumLen (code.take (c + 1)))
def halfC (code : List (List Int)) : Int := ((sumLen code : Int) + 1) / 2
def badP (code : List (List Int)) (q : Int × Int × Int) : Bool := q.1 == 0 || !inB q.1 (-halfC code) (halfC code) || placeOf code q.1 != some q.2
def badKind (code : List (List Int)) (q : Int × Int × Int) : Int := if q.1 = 0 then 2 else if inB q.1 (-halfC code) (halfC code) = false then 3 else 4
def absentP (code : List (List Int)) (q : Int × Int × Int) : Bool := placeOf code (-q.1) == none
def oddP (code : List (List Int)) (q : Int × Int × Int) : Bool := oddX code q.1
/-- the first fault of a code -/
def faultC (code : List (List Int)) : Int × Int × Int :=
  if 40 < code.length then (1, 0, 0) else
  match (List.range code.length).find? (manyP code) with
  | some c => (1, (c : Int), 0)
  | none =>
    match (posC code).find? (badP code) with
    | some q => (badKind code q, q.2.1, q.2.2)
    | none =>
      match (posC code).find? (absentP code) with
      | some q => (5, q.2.1, q.2.2)
      | none =>
        match (posC code).find? (oddP code) with
        | some q => (6, q.2.1, q.2.2)
        | none => (0, 0, 0)
theorem fault_long {code : List (List Int)} (h : 40 < code.length) : faultC code = (1, 0, 0) := by unfold faultC; rw [if_pos h]
theorem range_find_hit {p : Nat → Bool} {n k : Nat} (hk : k < n) (h : ∀ j, j < k → p j = false) (hp : p k = true) : (List.range n).find? p = some k := by
  rw [List.find?_range_eq_some]
  exact ⟨hp, by simpa using hk, fun j hj => by simp [h j hj]⟩
theorem range_find_none {p : Nat → Bool} {n : Nat} (h : ∀ j, j < n → p j = false) : (List.range n).find? p = none := by
  rw [List.find?_eq_none]
  intro j hj
  simp [h j (by simpa using hj)]
theorem fault_many {code : List (List Int)} {c : Nat} (h : ¬ 40 < code.length) (hc : c < code.length) (h1 : ∀ j, j < c → manyP code j = false) (h2 : manyP code c = true) : faultC code = (1, (c : Int), 0) := by
  unfold faultC
  rw [if_neg h, range_find_hit hc h1 h2]
theorem fault_bad {code : List (List Int)} {q : Int × Int × Int} (h : ¬ 40 < code.length) (h1 : ∀ j, j < code.length → manyP code j = false) (h2 : (posC code).find? (badP code) = some q) : faultC code = (badKind code q, q.2.1, q.2.2) := by
  unfold faultC
  rw [if_neg h, range_find_none h1, h2]
theorem fault_absent {code : List (List Int)} {q : Int × Int × Int} (h : ¬ 40 < code.length) (h1 : ∀ j, j < code.length → manyP code j = false) (h2 : (posC code).find? (badP code) = none) (h3 : (posC code).find? (absentP code) = some q) : faultC code = (5, q.2.1, q.2.2) := by
  unfold faultC
  rw [if_neg h, range_find_none h1, h2]
  dsimp only
  rw [h3]
theorem fault_odd {code : List (List Int)} {q : Int × Int × Int} (h : ¬ 40 < code.length) (h1 : ∀ j, j < code.length → manyP code j = false) (h2 : (posC code).find? (badP code) = none) (h3 : (posC code).find? (absentP code) = none) (h4 : (posC code).find? (oddP code) = some q) : faultC code = (6, q.2.1, q.2.2) := by
  unfold faultC
  rw [if_neg h, range_find_none h1, h2]
  dsimp only
  rw [h3]
  dsimp only
  rw [h4]
theorem fault_none {code : List (List Int)} (h : ¬ 40 < code.length) (h1 : ∀ j, j < code.length → manyP code j = false) (h2 : (posC code).find? (badP code) = none) (h3 : (posC code).find? (absentP code) = none) (h4 : (posC code).find? (oddP code) = none) : faultC code = (0, 0, 0) := by
  unfold faultC
  rw [if_neg h, range_find_none h1, h2]
  dsimp only
  rw [h3]
  dsimp only
  rw [h4]
theorem many_none {code : List (List Int)} (h : sumLen code ≤ 240) : ∀ j, j < code.length → manyP code j = false := fun j _ => by
  have := sumLen_take_le code (j + 1)
  unfold manyP
  exact decide_eq_false (by omega)
theorem apart_of_bad {code : List (List Int)} (h : (posC code).find? (badP code) = none) : Apart code := fun i k xs x h1 h2 => by
  rw [List.find?_eq_none] at h
  obtain ⟨t, ht⟩ := posC_split h1 h2
  have := h (x, (i : Int), (k : Int)) (by rw [ht]; simp)
  unfold badP at this
  simp at this
  exact this.2
theorem good_of_bad {code : List (List Int)} (h : (posC code).find? (badP code) = none) {i k : Nat} {xs : List Int} {x : Int} (h1 : code[i]? = some xs) (h2 : xs[k]? = some x) : x ≠ 0 ∧ inB x (-halfC code) (halfC code) = true := by
  rw [List.find?_eq_none] at h
  obtain ⟨t, ht⟩ := posC_split h1 h2
  have := h (x, (i : Int), (k : Int)) (by rw [ht]; simp)
  unfold badP at this
  simp at this
  exact this.1
/-- which numbers have been met -/
def flagL (n : Nat) (g : Nat → Int) (l : List Int) : List Bool := (List.range (n + 1)).map fun j : Nat => decide (g j ∈ l)
theorem flagL_length (n : Nat) (g : Nat → Int) (l : List Int) : (flagL n g l).length = n + 1 := by simp [flagL]
theorem flagL_nil (n : Nat) (g : Nat → Int) : flagL n g [] = List.replicate (n + 1) false := by
  apply List.ext_getElem?
  intro i
  simp only [flagL, List.getElem?_map, List.getElem?_replicate]
  by_cases h : i < n + 1
  · rw [List.getElem?_range h, if_pos h]
    simp
  · rw [List.getElem?_eq_none (by simp; omega), if_neg h]
    rfl
theorem flagL_at {n m : Nat} {g : Nat → Int} {l : List Int} (hx : m < n + 1) : (flagL n g l)[m]? = some (decide (g m ∈ l)) := by
  simp only [flagL, List.getElem?_map]
  rw [List.getElem?_range hx, Option.map_some]
theorem flagL_set {n m : Nat} {g : Nat → Int} {l : List Int} {x : Int} (hg : ∀ a b, g a = g b → a = b) (hm : x = g m) (hx : m < n + 1) : (flagL n g l).set m true = flagL n g (l ++ [x]) := by
  apply List.ext_getElem?
  intro i
  by_cases h : m = i
  · subst h
    rw [List.getElem?_set_self (by rw [flagL_length]; exact hx), flagL_at hx]
    simp [hm]
  · rw [List.getElem?_set_ne h]
    simp only [flagL, List.getElem?_map]
    by_cases h2 : i < n + 1
    · rw [List.getElem?_range h2]
      simp only [Option.map_some, Option.some.injEq, decide_eq_decide, List.mem_append, List.mem_singleton]
      constructor
      · exact .inl
      · intro h3
        rcases h3 with h3 | h3
        · exact h3
        · exact absurd (hg _ _ (h3.trans hm)).symm h
    · rw [List.getElem?_eq_none (by simp; omega)]
      rfl
theorem flagL_other {n : Nat} {g : Nat → Int} {l : List Int} {x : Int} (h : ∀ j, g j ≠ x) : flagL n g (l ++ [x]) = flagL n g l := by
  unfold flagL
  apply List.map_congr_left
  intro j _
  simp [h j]
def posG (j : Nat) : Int := (j : Int)
def negG (j : Nat) : Int := -(j : Int)
theorem posG_inj (a b : Nat) (h : posG a = posG b) : a = b := by unfold posG at h; omega
theorem negG_inj (a b : Nat) (h : negG a = negG b) : a = b := by unfold negG at h; omega
end Go.Proofs.Ytnjojnnapdhijaa

namespace Go.Proofs
open Go.Shelf
def Try.growI_ren : Go.Shelf.Ren := ⟨fun | 4 => 132 | n => n, fun | 22 => 34 | 25 => 2 | 3 => 3 | 4 => 4 | 9 => 9 | 20 => 20 | 0 => 0 | n => n, fun | n => n⟩
theorem Try.growI : Go.Proofs.Lays8.n4 Try.prog Try.growI_ren := {
  mixed := by kernel_rfl
  f4 := ⟨Try.f132.name, by decide, Try.func132.trans (congrArg some (by kernel_rfl))⟩
  t0 := Try.underlying0
  a0 := Try.isAgg0
  z0 := Try.sizeOf0
  v0 := Try.zeroValue0
  t3 := Try.underlying3
  a3 := Try.isAgg3
  z3 := Try.sizeOf3
  v3 := Try.zeroValue3
  t4 := Try.underlying4
  a4 := Try.isAgg4
  z4 := Try.sizeOf4
  v4 := Try.zeroValue4
  t9 := Try.underlying9
  a9 := Try.isAgg9
  z9 := Try.sizeOf9
  v9 := Try.zeroValue9
  t20 := Try.underlying20
  a20 := Try.isAgg20
  z20 := Try.sizeOf20
  v20 := Try.zeroValue20
  t22 := Try.underlying34
  a22 := Try.isAgg34
  z22 := Try.sizeOf34
  v22 := Try.zeroValue34 }
end Go.Proofs
namespace Go.Proofs.Ytnjojnnapdhijaa
open Go.RowKit
set_option linter.unusedVariables false

theorem grow_any (n : Nat) (w : World) (hn : n ≤ 2097152) :
    Calls Try.prog 132 #[.slice none 0 0, .int .i64 (n : Int)] w fun e w' => ∃ A c, e = .returned (.slice A 0 c) ∧ OwnI w' w.heap.size A c [] ∧ Below w.heap.size w w' := by
  obtain ⟨i0, hi, hz0, hz1, hz2⟩ := info_parts info_i64
  by_cases h0 : n = 0
  · subst h0
    refine (Any8.slices_Grow_room Try.growI none 0 0 0 w (Nat.le_refl _) (by decide) (by decide) (by decide)).mono ?_
    rintro e w' ⟨rfl, rfl⟩
    exact ⟨none, 0, rfl, OwnI.nil _ _, Below.refl _ _⟩
  · refine (Any8.slices_Grow_grow Try.growI i0 (.int .i64 0) hi hz0 (by rw [hz1]; decide) none 0 0 n [] w (Nat.le_refl _) (by omega) (by rw [hz2]; omega) (by omega) (by simp) (fun _ => rfl) (fun a h => by cases h)).mono ?_
    rintro e w' ⟨rfl, rfl⟩
    have hG := grownCap_ge w (0 + n) 0 (Try.growI_ren.t 25)
    have hG2 := grownCap_le_maxLen w (0 + n) 0 (Try.growI_ren.t 25) (by unfold maxLen; omega)
    refine ⟨_, _, rfl, ⟨by simp, .inr ⟨w.heap.size, _, _, rfl, Nat.le_refl _, heap_alloc_new _ _, Nat.zero_le _, hG2, ?_, by simp⟩⟩, (Below.refl _ _).drew.alloc (by simp) _⟩
    have hzc : ∀ m, (Builtin.zeroCells (Value.int .i64 0).cells m).size = m := fun m => by simp [Builtin.zeroCells, Value.cells]
    rw [Array.size_append, Array.size_append, hzc, hzc]
    simp at hG ⊢
    omega

set_option maxRecDepth 100000 in
set_option maxHeartbeats 2000000 in
theorem concat2_any (G : Nat) (B1 B2 : Option Addr) (d1 d2 : Nat) (xs ys : List Int) (w : World) (hG : Bx w G 34 #[.slice B1 xs.length d1, .slice B2 ys.length d2]) (h1 : RI w B1 xs) (h2 : RI w B2 ys) (hx : xs.length ≤ 1048576) (hy : ys.length ≤ 1048576) :
    Calls Try.prog 121 #[.slice (some ⟨G, 0, none⟩) 2 2] w (RetI w (xs ++ ys)) := by
  obtain ⟨c1, c2⟩ := hG.two
  obtain ⟨L, hL⟩ : ∃ L : Nat, L = xs.length + ys.length := ⟨_, rfl⟩
  have HL := hide hL
  have hLm : L ≤ 2097152 := by omega
  clear hL
  go_enter Try.func121, Try.ntmps121
  go_wp2_with fail
  go_loop [3, 11] (fun s i => ∃ (k : Nat) (n : Nat), k ≤ 2 ∧ i = .int .i64 k ∧ s = .int .i64 n ∧ n ≤ 2097152 ∧ Hid ((k = 0 → n = 0) ∧ (k = 1 → n = xs.length) ∧ (k = 2 → n = xs.length + ys.length))) (fun _ i => 2 - (intOf i).toNat)
  case atStart => exact ⟨0, 0, by omega, rfl, rfl, by omega, hide (by omega)⟩
  case round =>
    obtain ⟨k, n, hk, rfl, rfl, hnl, hkn⟩ := hrel
    rcases (show k = 0 ∨ k = 1 ∨ k = 2 by omega) with rfl | rfl | rfl
    · obtain rfl : n = 0 := hkn.out.1 rfl
      go_wp2_with fail
      go_round
      case rel => exact ⟨1, xs.length, by omega, by go_num, by go_num, by omega, hide (by omega)⟩
      case measure => simp [intOf]
    · obtain rfl : n = xs.length := hkn.out.2.1 rfl
      go_wp2_with fail
      go_round
      case rel => exact ⟨2, xs.length + ys.length, by omega, by go_num, by go_num, by omega, hide (by omega)⟩
      case measure => simp [intOf]
    · obtain rfl : n = L := by rw [HL.out]; exact hkn.out.2.2 rfl
      go_wp2_with fail
      refine (grow_any n _ hnl).mono ?_
      rintro e w1 ⟨A, c, rfl, own, hb⟩
      clear c1 c2
      go_wp2_with fail
      go_loopw [6, 27] (fun o i wr => ∃ (k : Nat) (A1 : Option Addr) (c1 : Nat) (zs : List Int), k ≤ 2 ∧ i = .int .i64 k ∧ o = .slice A1 zs.length c1 ∧ Hid ((k = 0 → zs = []) ∧ (k = 1 → zs = xs) ∧ (k = 2 → zs = xs ++ ys)) ∧ OwnI wr w.heap.size A1 c1 zs ∧ Below w.heap.size w wr) (fun _ i _ => 2 - (intOf i).toNat)
      case atStart => exact ⟨0, A, c, [], by omega, rfl, rfl, hide (by simp), own, hb⟩
      case round =>
        clear own
        obtain ⟨k, A1, c1, zs, hk, rfl, rfl, hkz, own, hB⟩ := hrel
        have hz := hB.size
        obtain ⟨q1, q2⟩ := (hG.below hB).two
        rcases (show k = 0 ∨ k = 1 ∨ k = 2 by omega) with rfl | rfl | rfl
        · obtain rfl : zs = [] := hkz.out.1 rfl
          go_wp2_with (at_builtin; refine wpList_append_ints rfl (.tmp 31) (.tmp 32) rfl w.heap.size A1 c1 [] rfl own B1 d1 xs rfl (h1.below hB) (by simp; omega) hz xs rfl ?_; intro A3 c3 w3 own3 hg3 hb3)
          go_roundw
          case rel => exact ⟨1, A3, c3, xs, by omega, by go_num, rfl, hide (by simp), own3, hB.grown hg3 hz (fun q hq => (own.ge hq).1)⟩
          case measure => simp [intOf]
        · obtain rfl : zs = xs := hkz.out.2.1 rfl
          obtain ⟨us, hus⟩ : ∃ us, us = zs ++ ys := ⟨_, rfl⟩
          go_wp2_with (at_builtin; refine wpList_append_ints rfl (.tmp 31) (.tmp 32) rfl w.heap.size A1 c1 zs rfl own B2 d2 ys rfl (h2.below hB) (by omega) hz us hus ?_; intro A3 c3 w3 own3 hg3 hb3)
          go_roundw
          case rel => exact ⟨2, A3, c3, us, by omega, by go_num, by simp [hus], hide (by simp [hus]), own3, hB.grown hg3 hz (fun q hq => (own.ge hq).1)⟩
          case measure => simp [intOf]
        · have hzz := hide (hkz.out.2.2 rfl)
          go_wp2_with fail
          go_ret
          rw [← hzz.out]
          exact ⟨A1, c1, rfl, own, hB⟩

/-- a list that begins at an index, backwards if back is true -/
def turnX (xs : List Int) (a : Nat) (back : Bool) (k : Nat) : Int := xs.getD (if back = true then (a + xs.length - k) % xs.length else (a + k) % xs.length) 0
def turnL (xs : List Int) (a : Nat) (back : Bool) : List Int := (List.range xs.length).map (turnX xs a back)
def turnTo (xs : List Int) (a : Nat) (back : Bool) (m : Nat) : List Int := (List.range m).map (turnX xs a back)
theorem turnTo_next (xs : List Int) (a : Nat) (back : Bool) (m : Nat) : turnTo xs a back (m + 1) = turnTo xs a back m ++ [turnX xs a back m] := by
  unfold turnTo
  rw [List.range_succ, List.map_append]
  rfl
theorem turnTo_len (xs : List Int) (a : Nat) (back : Bool) (m : Nat) : (turnTo xs a back m).length = m := by simp [turnTo]
theorem tmod_nat (m n : Nat) (i : Int) (hi : i = (m : Int)) : Int.tmod i (n : Int) = ((m % n : Nat) : Int) := by
  subst hi
  rw [Int.tmod_eq_emod_of_nonneg (by omega), Int.natCast_emod]

set_option maxRecDepth 100000 in
set_option maxHeartbeats 2000000 in
theorem l15Turn_any (A : Option Addr) (c a : Nat) (back : Bool) (xs : List Int) (w : World) (h : RI w A xs) (hn : xs.length ≤ 1048576) (ha : a < xs.length) :
    Calls Try.prog 78 #[.slice A xs.length c, .int .i64 (a : Int), .bool back] w (RetI w (turnL xs a back)) := by
  have he : OwnI (w.alloc (.cells #[] 2)) w.heap.size (some ⟨w.heap.size, 0, none⟩) 0 [] := OwnI.empty w (Nat.le_refl _)
  have hn1 : ¬ ((xs.length : Int) = 0) := by omega
  cases back
  case false =>
    go_enter Try.func78, Try.ntmps78
    go_wp2_with fail
    go_loopw [8, 9] (fun o i wr => ∃ (k : Nat) (A1 : Option Addr) (c1 : Nat) (zs : List Int), k ≤ xs.length ∧ i = .int .i64 k ∧ o = .slice A1 zs.length c1 ∧ Hid (zs = turnTo xs a false k) ∧ OwnI wr w.heap.size A1 c1 zs ∧ Below w.heap.size w wr) (fun _ i _ => xs.length - (intOf i).toNat)
    case atStart => exact ⟨0, _, 0, [], Nat.zero_le _, rfl, rfl, hide rfl, he, (Below.refl _ _).alloc (Nat.le_refl _) _⟩
    case round =>
      clear he
      obtain ⟨k, A1, c1, zs, hk, rfl, rfl, hzs, own, hB⟩ := hrel
      have hz := hB.size
      have hzl : zs.length ≤ 1048576 := by rw [hzs.out, turnTo_len]; omega
      by_cases hlt : k < xs.length
      · have hrl : (a + k) % xs.length < xs.length := Nat.mod_lt _ (by omega)
        have t1 := tmod_nat (a + k) xs.length ((a : Int) + (k : Int)) (by omega)
        obtain ⟨r, hr⟩ : ∃ r, r = (a + k) % xs.length := ⟨_, rfl⟩
        rw [← hr] at t1 hrl
        obtain ⟨b, off, x, rfl, hb, hx, hcx⟩ := (h.below hB).at_ hrl
        have HN : Hid (zs ++ [x] = turnTo xs a false (k + 1)) := hide (by
          rw [turnTo_next, ← hzs.out]
          congr 2
          unfold turnX
          rw [if_neg (by simp), ← hr]
          exact (getD_at hx).symm)
        have hrI : (r : Int) < (xs.length : Int) := by omega
        clear hx hr
        go_wp2_with (at_builtin; refine wpList_append_ints rfl (.tmp 32) (.tmp 37) rfl w.heap.size A1 c1 zs rfl (own.alloc _) (some ⟨wr.heap.size, 0, none⟩) 1 [x] rfl (OwnI.new (base := 0) wr [x] #[.int .i64 x] rfl (Nat.zero_le _) (by simp [maxLen])).rd (by simp; omega) (by simp; omega) (zs ++ [x]) rfl ?_; intro A3 c3 w3 own3 hg3 hb3)
        go_roundw
        case rel => exact ⟨k + 1, A3, c3, zs ++ [x], by omega, by go_num, by simp, HN, own3, (hB.alloc hz _).grown hg3 (by simp; omega) (fun q hq => (own.ge hq).1)⟩
        case measure => simp [intOf]; omega
      · have hzs' := hzs.out
        rw [show k = xs.length by omega] at hzs'
        have HZ : Hid (zs = turnL xs a false) := hide hzs'
        clear hzs hzs'
        go_wp2_with fail
        go_ret
        rw [← HZ.out]
        exact ⟨A1, c1, rfl, own, hB⟩
  case true =>
    go_enter Try.func78, Try.ntmps78
    go_wp2_with fail
    go_loopw [8, 9] (fun o i wr => ∃ (k : Nat) (A1 : Option Addr) (c1 : Nat) (zs : List Int), k ≤ xs.length ∧ i = .int .i64 k ∧ o = .slice A1 zs.length c1 ∧ Hid (zs = turnTo xs a true k) ∧ OwnI wr w.heap.size A1 c1 zs ∧ Below w.heap.size w wr) (fun _ i _ => xs.length - (intOf i).toNat)
    case atStart => exact ⟨0, _, 0, [], Nat.zero_le _, rfl, rfl, hide rfl, he, (Below.refl _ _).alloc (Nat.le_refl _) _⟩
    case round =>
      clear he
      obtain ⟨k, A1, c1, zs, hk, rfl, rfl, hzs, own, hB⟩ := hrel
      have hz := hB.size
      have hzl : zs.length ≤ 1048576 := by rw [hzs.out, turnTo_len]; omega
      by_cases hlt : k < xs.length
      · have hrl : (a + xs.length - k) % xs.length < xs.length := Nat.mod_lt _ (by omega)
        have t1 := tmod_nat (a + xs.length - k) xs.length ((a : Int) - (k : Int) + (xs.length : Int)) (by omega)
        have t0 := tmod_nat (a + k) xs.length ((a : Int) + (k : Int)) (by omega)
        have w1 : IntKind.i64.wrap ((a : Int) - (k : Int)) = (a : Int) - (k : Int) := by rw [IntKind.wrap_i64]; omega
        have w2 : IntKind.i64.wrap ((a : Int) - (k : Int) + (xs.length : Int)) = (a : Int) - (k : Int) + (xs.length : Int) := by rw [IntKind.wrap_i64]; omega
        obtain ⟨r, hr⟩ : ∃ r, r = (a + xs.length - k) % xs.length := ⟨_, rfl⟩
        obtain ⟨r0, hr0⟩ : ∃ r, r = (a + k) % xs.length := ⟨_, rfl⟩
        rw [← hr] at t1 hrl
        rw [← hr0] at t0
        obtain ⟨b, off, x, rfl, hb, hx, hcx⟩ := (h.below hB).at_ hrl
        have HN : Hid (zs ++ [x] = turnTo xs a true (k + 1)) := hide (by
          rw [turnTo_next, ← hzs.out]
          congr 2
          unfold turnX
          rw [if_pos rfl, ← hr]
          exact (getD_at hx).symm)
        have hrI : (r : Int) < (xs.length : Int) := by omega
        clear hx hr hr0
        go_wp2_with (at_builtin; refine wpList_append_ints rfl (.tmp 32) (.tmp 37) rfl w.heap.size A1 c1 zs rfl (own.alloc _) (some ⟨wr.heap.size, 0, none⟩) 1 [x] rfl (OwnI.new (base := 0) wr [x] #[.int .i64 x] rfl (Nat.zero_le _) (by simp [maxLen])).rd (by simp; omega) (by simp; omega) (zs ++ [x]) rfl ?_; intro A3 c3 w3 own3 hg3 hb3)
        go_roundw
        case rel => exact ⟨k + 1, A3, c3, zs ++ [x], by omega, by go_num, by simp, HN, own3, (hB.alloc hz _).grown hg3 (by simp; omega) (fun q hq => (own.ge hq).1)⟩
        case measure => simp [intOf]; omega
      · have hzs' := hzs.out
        rw [show k = xs.length by omega] at hzs'
        have HZ : Hid (zs = turnL xs a true) := hide hzs'
        clear hzs hzs'
        go_wp2_with fail
        go_ret
        rw [← HZ.out]
        exact ⟨A1, c1, rfl, own, hB⟩

set_option maxRecDepth 100000 in
set_option maxHeartbeats 2000000 in
theorem turned_any (A : Option Addr) (c a : Nat) (xs : List Int) (w : World) (h : RI w A xs) (hn : xs.length ≤ 1048576) (ha : a < xs.length) (hc : xs.length ≤ c) (hc2 : c ≤ 9223372036854775807) :
    Calls Try.prog 76 #[.slice A xs.length c, .int .i64 (a : Int)] w (RetI w (xs.drop a ++ xs.take a)) := by
  obtain ⟨b, off, x, rfl, hb, hx, hcx⟩ := h.at_ (k := a) ha
  obtain ⟨p1, hp1⟩ : ∃ p1, p1 = xs.drop a := ⟨_, rfl⟩
  obtain ⟨p2, hp2⟩ : ∃ p2, p2 = xs.take a := ⟨_, rfl⟩
  have hl1 : Hid (p1.length = xs.length - a) := hide (by rw [hp1, List.length_drop])
  have hl2 : Hid (p2.length = a) := hide (by rw [hp2, List.length_take]; omega)
  have r1 : RI w (some ⟨b, off + a, none⟩) p1 := by
    have := h.drop_ a (c := c) hc
    rw [if_neg (by omega), ← hp1] at this
    simpa [Addr.add_lit] using this
  have r2 : RI w (some ⟨b, off, none⟩) p2 := by rw [hp2]; exact h.take_ a
  have g1 : (a : Int) ≤ (xs.length : Int) := by omega
  have g2 : (a : Int) ≤ (c : Int) := by omega
  have hca : ¬ c = a := by omega
  have hn1 : Hid (p1.length ≤ 1048576 ∧ p2.length ≤ 1048576) := hide (by rw [hl1.out, hl2.out]; omega)
  rw [← hp1, ← hp2]
  clear hp1 hp2 hx
  have hbx : ∀ (W : World) (n : Nat), n = W.heap.size → Bx (W.alloc (.cells #[.slice (some ⟨b, off + a, none⟩) (xs.length - a) (c - a), .slice (some ⟨b, off, none⟩) a c] 34)) n 34 #[.slice (some ⟨b, off + a, none⟩) p1.length (c - a), .slice (some ⟨b, off, none⟩) p2.length c] := fun W n e => by
    rw [hl1.out, hl2.out]
    exact Bx.new_ W n _ _ e
  go_enter Try.func76, Try.ntmps76
  go_wp2_with fail
  have C0 : Below w.heap.size w w.drew := (Below.refl _ _).drew
  have KW : Hid (∀ W, Below w.heap.size w W → W.cell? ⟨b, off + a, none⟩ = some (.int .i64 x)) := hide (fun W hW => (hW.cell (p := ⟨b, off + a, none⟩) hb).trans hcx)
  go_region_held3 (fun w' => w'.cell? ⟨b, off + a, none⟩ = some (.int .i64 x))
    (first | exact KW.out _ CE | exact KW.out _ C0 | exact KW.out _ (C0.alloc (by simp) _) | exact KW.out _ (((Below.refl w.heap.size w).alloc (Nat.le_refl _) _).drew) | exact KW.out _ ((Below.refl w.heap.size w).alloc (Nat.le_refl _) _) | exact KW.out _ (Below.refl _ _) | fail)
    (first
      | (go_at_call 121; refine (concat2_any w.heap.size _ _ _ _ p1 p2 _ ((hbx w _ rfl).drew) ((r1.alloc _).drew) ((r2.alloc _).drew) hn1.out.1 hn1.out.2).mono ?_; rintro e w2 ⟨A2, c2, rfl, own, hb2⟩; have CE := Below.trans (((Below.refl w.heap.size w).alloc (Nat.le_refl _) _).drew) (hb2.mono (by simp)))
      | (go_at_call 121; refine (concat2_any w.heap.size _ _ _ _ p1 p2 _ (hbx w.drew _ rfl) (r1.drew.alloc _) (r2.drew.alloc _) hn1.out.1 hn1.out.2).mono ?_; rintro e w2 ⟨A2, c2, rfl, own, hb2⟩; have CE := Below.trans (C0.alloc (by simp) _) (hb2.mono (by simp)))
      | fail)
  all_goals go_wp2_with fail
  all_goals go_ret
  all_goals exact ⟨A2, c2, by simp, own.mono (by simp), CE⟩
end Go.Proofs.Ytnjojnnapdhijaa

namespace Go.Proofs.Ytnjojnnapdhijaa
open Go.RowKit
set_option linter.unusedVariables false

/-- the row with its first and its last k turned round -/
def revTo (xs : List Int) (k : Nat) : List Int := xs.mapIdx fun j y => if j < k ∨ xs.length - k ≤ j then xs.getD (xs.length - 1 - j) 0 else y
theorem revTo_length (xs : List Int) (k : Nat) : (revTo xs k).length = xs.length := by simp [revTo]
theorem revTo_zero (xs : List Int) : revTo xs 0 = xs := by
  apply List.ext_getElem?
  intro j
  by_cases h : j < xs.length
  · simp only [revTo, List.getElem?_mapIdx, List.getElem?_eq_getElem h, Option.map_some]
    rw [if_neg (by omega)]
  · simp [revTo, h]
theorem revTo_mid {xs : List Int} {k j : Nat} (h1 : k ≤ j) (h2 : j < xs.length - k) : (revTo xs k)[j]? = xs[j]? := by
  simp only [revTo, List.getElem?_mapIdx]
  rw [List.getElem?_eq_getElem (by omega), Option.map_some, if_neg (by omega)]
theorem revTo_next {xs : List Int} {k m : Nat} {x y : Int} (hk : k < m) (hm : m + k + 1 = xs.length) (hx : xs[k]? = some x) (hy : xs[m]? = some y) : ((revTo xs k).set k y).set m x = revTo xs (k + 1) := by
  apply List.ext_getElem?
  intro j
  by_cases hj : m = j
  · subst hj
    rw [List.getElem?_set_self (by rw [List.length_set, revTo_length]; omega)]
    simp only [revTo, List.getElem?_mapIdx, hy, Option.map_some]
    rw [if_pos (by omega), show xs.length - 1 - m = k by omega, getD_of hx]
  · rw [List.getElem?_set_ne hj]
    by_cases hj2 : k = j
    · subst hj2
      rw [List.getElem?_set_self (by rw [revTo_length]; omega)]
      simp only [revTo, List.getElem?_mapIdx, hx, Option.map_some]
      rw [if_pos (by omega), show xs.length - 1 - k = m by omega, getD_of hy]
    · rw [List.getElem?_set_ne hj2]
      simp only [revTo, List.getElem?_mapIdx]
      congr 1
      funext z
      by_cases h1 : j < k ∨ xs.length - k ≤ j
      · rw [if_pos h1, if_pos (by omega)]
      · rw [if_neg h1, if_neg (by omega)]
theorem revTo_end {xs : List Int} {k : Nat} (h : xs.length ≤ 2 * k + 1) : revTo xs k = xs.reverse := by
  apply List.ext_getElem?
  intro j
  by_cases hj : j < xs.length
  · rw [List.getElem?_reverse hj]
    simp only [revTo, List.getElem?_mapIdx, List.getElem?_eq_getElem hj, Option.map_some]
    rw [List.getElem?_eq_getElem (by omega)]
    congr 1
    by_cases h1 : j < k ∨ xs.length - k ≤ j
    · rw [if_pos h1, List.getD_eq_getElem?_getD, List.getElem?_eq_getElem (by omega)]; rfl
    · rw [if_neg h1]
      congr 1
      omega
  · simp [revTo, hj]

theorem grown_drew {a b : World} {r : Option Nat} (h : a.grownBy b r) : a.grownBy b.drew r := ⟨h.os, h.tape, h.output, h.size, h.block⟩

set_option maxHeartbeats 1000000 in
theorem slicesReverse_any (A : Option Addr) (c base : Nat) (xs : List Int) (w : World) (h : OwnI w base A c xs) (hn : xs.length ≤ 1048576) (hb : base ≤ w.heap.size) :
    Calls Try.prog 75 #[.slice A xs.length c] w fun e w' => e = .returned (.tuple #[]) ∧ OwnI w' base A c xs.reverse ∧ w.grownBy w' (blk A) := by
  go_enter Try.func75, Try.ntmps75
  go_wp2
  go_loopw [2, 3] (fun i m wr => ∃ (k : Nat) (ys : List Int), 2 * k ≤ xs.length + 1 ∧ i = .int .i64 k ∧ m = .int .i64 ((xs.length : Int) - 1 - k) ∧ Hid (ys = revTo xs k) ∧ OwnI wr base A c ys ∧ w.grownBy wr (blk A)) (fun i _ _ => xs.length - (intOf i).toNat)
  case atStart => exact ⟨0, xs, by omega, rfl, by simp, hide (by rw [revTo_zero]), h, World.grownBy.refl _ _⟩
  case round =>
    obtain ⟨k, ys, hk, rfl, rfl, hys, own, hg⟩ := hrel
    by_cases hlt : 2 * k + 1 < xs.length
    · obtain ⟨m, hm⟩ : ∃ m : Nat, m + k + 1 = xs.length := ⟨xs.length - k - 1, by omega⟩
      have hm1 : k < m := by omega
      have hx : xs[k]? = some xs[k] := List.getElem?_eq_getElem (by omega)
      have hy : xs[m]? = some xs[m] := List.getElem?_eq_getElem (by omega)
      have hN := revTo_next hm1 hm hx hy
      have hyl : ys.length = xs.length := by rw [hys.out, revTo_length]
      obtain ⟨g, u, rfl, hgb, hgs, hu, hgc, hgf, hst⟩ := own.at_ (k := k) (by omega)
      obtain ⟨g', v, hg', _, _, hv, hgc', hgf', _⟩ := own.at_ (k := m) (by omega)
      injection hg' with hg'
      injection hg' with hg'
      subst hg'
      have hue : u = xs[k] := by
        rw [hys.out, revTo_mid (Nat.le_refl _) (by omega), hx] at hu
        injection hu with hu
        exact hu.symm
      have hve : v = xs[m] := by
        rw [hys.out, revTo_mid (by omega) (by omega), hy] at hv
        injection hv with hv
        exact hv.symm
      obtain ⟨o1, g1⟩ := hst v
      obtain ⟨g2, v2, hg2, _, _, _, _, _, hst2⟩ := o1.at_ (k := m) (by rw [List.length_set]; omega)
      injection hg2 with hg2
      injection hg2 with hg2
      subst hg2
      obtain ⟨o2, g3⟩ := hst2 u
      have HO := hide o2
      have HG := hide (grown_drew (grown_trans hg (grown_trans g1 g3)))
      have HY : Hid ((ys.set k v).set m u = revTo xs (k + 1)) := by
        show _ = _
        rw [hys.out, hue, hve]
        exact hN
      have hm2 : (xs.length : Int) - 1 - (k : Int) = (m : Int) := by omega
      have hyl' := hide hyl
      clear hst hst2 o1 o2 g1 g3 hue hve hN hx hy hu hv hys hm hyl
      go_wp2_with fail
      go_region
      all_goals go_wp2
      all_goals go_roundw
      case rel => exact ⟨k + 1, _, by omega, by go_num, by go_num, HY, HO.out, HG.out⟩
      case measure => simp [intOf]; omega
    · have HE := revTo_end (xs := xs) (k := k) (by omega)
      have hys' := hys.out
      rw [HE] at hys'
      subst hys'
      clear hys HE
      go_wp2

      refine bodyPost_end (results_none rfl _ _ _) rfl ?_
      exact ⟨rfl, own, hg⟩
end Go.Proofs.Ytnjojnnapdhijaa

namespace Go.Proofs.Ytnjojnnapdhijaa
open Go.RowKit
set_option linter.unusedVariables false

theorem len_le_of_sub {l : List Int} (hn : l.Nodup) : ∀ {m : List Int}, (∀ x ∈ l, x ∈ m) → l.length ≤ m.length := by
  induction l with
  | nil => intro m h; simp
  | cons a t ih =>
    intro m h
    rw [List.nodup_cons] at hn
    have ha : a ∈ m := h a List.mem_cons_self
    have h1 : ∀ x ∈ t, x ∈ m.erase a := fun x hx => by
      have hxa : x ≠ a := fun e => hn.1 (e ▸ hx)
      exact (List.mem_erase_of_ne hxa).2 (h x (List.mem_cons_of_mem _ hx))
    have h2 := ih hn.2 h1
    have h3 := List.length_erase_of_mem ha
    have h4 : 0 < m.length := List.length_pos_of_mem ha
    rw [List.length_cons]
    omega
/-- all numbers but 0 up to n, both ways -/
def bothL (n : Nat) : List Int := ((List.range n).map fun j : Nat => (j : Int) + 1) ++ (List.range n).map fun j : Nat => -((j : Int) + 1)
theorem bothL_length (n : Nat) : (bothL n).length = 2 * n := by simp [bothL]; omega
theorem bothL_mem {n : Nat} {x : Int} : x ∈ bothL n ↔ x ≠ 0 ∧ -(n : Int) ≤ x ∧ x ≤ n := by
  unfold bothL
  rw [List.mem_append, List.mem_map, List.mem_map]
  constructor
  · rintro (⟨j, hj, rfl⟩ | ⟨j, hj, rfl⟩)
    · have := List.mem_range.1 hj
      omega
    · have := List.mem_range.1 hj
      omega
  · intro h
    rcases Int.lt_or_le 0 x with h0 | h0
    · exact .inl ⟨(x - 1).toNat, List.mem_range.2 (by omega), by omega⟩
    · exact .inr ⟨(-x - 1).toNat, List.mem_range.2 (by omega), by omega⟩
theorem nodup_mapI {f : Nat → Int} {l : List Nat} (hl : l.Nodup) (hf : ∀ a b, f a = f b → a = b) : (l.map f).Nodup := by
  unfold List.Nodup at hl ⊢
  rw [List.pairwise_map]
  exact hl.imp fun h e => h (hf _ _ e)
theorem bothL_nodup (n : Nat) : (bothL n).Nodup := by
  unfold bothL
  rw [List.nodup_append]
  refine ⟨nodup_mapI List.nodup_range (fun a b h => by omega), nodup_mapI List.nodup_range (fun a b h => by omega), fun a ha b hb => ?_⟩
  obtain ⟨j, hj, rfl⟩ := List.mem_map.1 ha
  obtain ⟨k, hk, rfl⟩ := List.mem_map.1 hb
  omega
/-- In a good list of all its numbers each is met. -/
theorem Good.all {n : Nat} {l : List Int} (h : Good n l) (hl : l.length = 2 * n) {x : Int} (h0 : x ≠ 0) (h1 : -(n : Int) ≤ x) (h2 : x ≤ n) : x ∈ l := by
  by_cases hx : x ∈ l
  · exact hx
  · exfalso
    have hsub : ∀ y ∈ l, y ∈ (bothL n).erase x := fun y hy => by
      have hyx : y ≠ x := fun e => hx (e ▸ hy)
      exact (List.mem_erase_of_ne hyx).2 (bothL_mem.2 (h.2 y hy))
    have h3 := len_le_of_sub h.1 hsub
    have hm : x ∈ bothL n := bothL_mem.2 ⟨h0, h1, h2⟩
    rw [List.length_erase_of_mem hm, bothL_length] at h3
    have := List.length_pos_of_mem hm
    rw [bothL_length] at this
    omega
theorem valid_has {code : List (List Int)} (h : validC code = true) {x : Int} (h0 : x ≠ 0) (h1 : -((sumLen code / 2 : Nat) : Int) ≤ x) (h2 : x ≤ ((sumLen code / 2 : Nat) : Int)) : x ∈ code.flatten := by
  obtain ⟨N, g1, g2, g3, g4⟩ := validC_true h
  have e : sumLen code / 2 = N := by omega
  rw [e] at h1 h2
  exact g4.all (by rw [flatten_len]; exact g2) h0 h1 h2
theorem valid_apart' {code : List (List Int)} (h : validC code = true) : Apart code := by
  obtain ⟨N, h1, h2, h3, h4⟩ := validC_true h
  exact apart_of_nodup h4.1
theorem valid_sum {code : List (List Int)} (h : validC code = true) : code.length ≤ 40 ∧ sumLen code ≤ 240 ∧ sumLen code / 2 ≤ 120 := by
  obtain ⟨N, h1, h2, h3, h4⟩ := validC_true h
  omega
theorem apart_of_mem {code : List (List Int)} (ha : Apart code) {x : Int} (h : x ∈ code.flatten) : ∃ (i k : Nat) (xs : List Int), code[i]? = some xs ∧ xs[k]? = some x ∧ placeOf code x = some ((i : Int), (k : Int)) := by
  obtain ⟨xs, h1, h2⟩ := List.mem_flatten.1 h
  obtain ⟨i, hi⟩ := List.mem_iff_getElem?.1 h1
  obtain ⟨k, hk⟩ := List.mem_iff_getElem?.1 h2
  exact ⟨i, k, xs, hi, hk, ha i k xs x hi hk⟩

/-- two neighbours are a and b, in either order -/
def nbB (x y a b : Int) : Bool := (x == a && y == b) || (x == b && y == a)
def nxtK (xs : List Int) (a b : Int) (k : Nat) : Bool := nbB (xs.getD k 0) (xs.getD ((k + 1) % xs.length) 0) a b
def nxtRow (a b : Int) (xs : List Int) : Bool := (List.range xs.length).any (nxtK xs a b)
def nextC (code : List (List Int)) (a b : Int) : Bool := code.any (nxtRow a b)
/-- the same by places -/
def folB (code : List (List Int)) (p q : Int × Int) : Bool :=
  p.1 == q.1 && !(p.2 == q.2) && ((p.2 + 1) % ((code.getD p.1.toNat []).length : Int) == q.2 || (q.2 + 1) % ((code.getD p.1.toNat []).length : Int) == p.2)
theorem modN (k n : Nat) : ((k : Int) + 1) % (n : Int) = (((k + 1) % n : Nat) : Int) := by
  rw [Int.natCast_emod]; rfl
theorem nbB_iff {x y a b : Int} : nbB x y a b = true ↔ (x = a ∧ y = b) ∨ (x = b ∧ y = a) := by simp [nbB]
theorem nxtRow_iff {a b : Int} {xs : List Int} : nxtRow a b xs = true ↔ ∃ (k : Nat) (x y : Int), xs[k]? = some x ∧ xs[(k + 1) % xs.length]? = some y ∧ ((x = a ∧ y = b) ∨ (x = b ∧ y = a)) := by
  unfold nxtRow
  rw [List.any_eq_true]
  constructor
  · rintro ⟨k, hk, h⟩
    have hk := List.mem_range.1 hk
    have hm : (k + 1) % xs.length < xs.length := Nat.mod_lt _ (by omega)
    unfold nxtK at h
    rw [nbB_iff, getD_at (List.getElem?_eq_getElem hk), getD_at (List.getElem?_eq_getElem hm)] at h
    exact ⟨k, xs[k], xs[(k + 1) % xs.length], List.getElem?_eq_getElem hk, List.getElem?_eq_getElem hm, h⟩
  · rintro ⟨k, x, y, h1, h2, h⟩
    refine ⟨k, List.mem_range.2 (List.getElem?_eq_some_iff.1 h1).1, ?_⟩
    unfold nxtK
    rw [nbB_iff, getD_at h1, getD_at h2]
    exact h
theorem fol_next {code : List (List Int)} (ha : Apart code) {a b : Int} {i k j m : Nat} {xs ys : List Int} (hi : code[i]? = some xs) (hk : xs[k]? = some a) (hj : code[j]? = some ys) (hm : ys[m]? = some b) (hab : a ≠ b) :
    folB code ((i : Int), (k : Int)) ((j : Int), (m : Int)) = nextC code a b := by
  have e0 : (code.getD ((i : Int)).toNat []) = xs := by rw [show ((i : Int)).toNat = i by omega]; exact getD_row hi
  rw [Bool.eq_iff_iff]
  unfold folB nextC
  dsimp only
  rw [e0, modN, modN, List.any_eq_true]
  simp only [Bool.and_eq_true, Bool.or_eq_true, beq_iff_eq, Bool.not_eq_true', beq_eq_false_iff_ne, ne_eq]
  constructor
  · rintro ⟨⟨h1, h2⟩, h3⟩
    have hij : i = j := by omega
    subst hij
    rw [hi] at hj
    injection hj with hj
    subst hj
    refine ⟨xs, List.mem_of_getElem? hi, nxtRow_iff.2 ?_⟩
    rcases h3 with h3 | h3
    · exact ⟨k, a, b, hk, by rw [show (k + 1) % xs.length = m by omega]; exact hm, .inl ⟨rfl, rfl⟩⟩
    · exact ⟨m, b, a, hm, by rw [show (m + 1) % xs.length = k by omega]; exact hk, .inr ⟨rfl, rfl⟩⟩
  · rintro ⟨zs, hz, h⟩
    obtain ⟨n, hn⟩ := List.mem_iff_getElem?.1 hz
    obtain ⟨t, x, y, h1, h2, h3⟩ := nxtRow_iff.1 h
    have pa := ha i k xs a hi hk
    have pb := ha j m ys b hj hm
    have px := ha n t zs x hn h1
    have py := ha n _ zs y hn h2
    rcases h3 with ⟨rfl, rfl⟩ | ⟨rfl, rfl⟩
    · rw [pa] at px
      rw [pb] at py
      simp only [Option.some.injEq, Prod.mk.injEq] at px py
      have e1 : i = n := by omega
      have e2 : j = n := by omega
      have e3 : k = t := by omega
      subst e1 e2 e3
      rw [hi] at hn
      injection hn with hn
      subst hn
      rw [hi] at hj
      injection hj with hj
      subst hj
      have hkm : k ≠ m := fun e => hab (by subst e; rw [hk] at hm; injection hm)
      exact ⟨⟨rfl, by omega⟩, .inl (by omega)⟩
    · rw [pa] at py
      rw [pb] at px
      simp only [Option.some.injEq, Prod.mk.injEq] at px py
      have e1 : i = n := by omega
      have e2 : j = n := by omega
      have e3 : m = t := by omega
      subst e1 e2 e3
      rw [hi] at hn
      injection hn with hn
      subst hn
      rw [hi] at hj
      injection hj with hj
      subst hj
      have hkm : k ≠ m := fun e => hab (by subst e; rw [hk] at hm; injection hm)
      exact ⟨⟨rfl, by omega⟩, .inr (by omega)⟩
/-- In a valid code: elements that follow one another, by their places. -/
theorem fol_valid {code : List (List Int)} (h : validC code = true) {a b : Int} (h1 : a ∈ code.flatten) (h2 : b ∈ code.flatten) (hab : a ≠ b) : folB code (plc code a) (plc code b) = nextC code a b := by
  have ha := valid_apart' h
  obtain ⟨i, k, xs, hi, hk, p1⟩ := apart_of_mem ha h1
  obtain ⟨j, m, ys, hj, hm, p2⟩ := apart_of_mem ha h2
  unfold plc
  rw [p1, p2]
  exact fol_next ha hi hk hj hm hab

def loopK (code : List (List Int)) (k : Nat) : Bool := nextC code ((k : Int) + 1) (-(k : Int) - 1)
def pairK (code : List (List Int)) (a b : Nat) : Bool := nextC code ((a : Int) + 1) ((b : Int) + 1) && nextC code (-(a : Int) - 1) (-(b : Int) - 1)
def loopsL (code : List (List Int)) (m : Nat) : List Int := ((List.range m).filter (loopK code)).map Int.ofNat
theorem loopsL_yes {code : List (List Int)} {k : Nat} (h : loopK code k = true) : loopsL code (k + 1) = loopsL code k ++ [(k : Int)] := by
  unfold loopsL
  rw [List.range_succ, List.filter_append, List.map_append]
  simp [h]
theorem loopsL_no {code : List (List Int)} {k : Nat} (h : loopK code k = false) : loopsL code (k + 1) = loopsL code k := by
  unfold loopsL
  rw [List.range_succ, List.filter_append, List.map_append]
  simp [h]
theorem loopsL_len (code : List (List Int)) (m : Nat) : (loopsL code m).length ≤ m := by
  unfold loopsL
  rw [List.length_map]
  have := List.length_filter_le (loopK code) (List.range m)
  rw [List.length_range] at this
  exact this
/-- the pairs of a with numbers above it and below m -/
def pairsA (code : List (List Int)) (a m : Nat) : List (List Int) := ((List.range m).filter fun b => decide (a < b) && pairK code a b).map fun b : Nat => [(a : Int), (b : Int)]
theorem pairsA_yes {code : List (List Int)} {a b : Nat} (hab : a < b) (h : pairK code a b = true) : pairsA code a (b + 1) = pairsA code a b ++ [[(a : Int), (b : Int)]] := by
  unfold pairsA
  rw [List.range_succ, List.filter_append, List.map_append]
  simp [h, hab]
theorem pairsA_no {code : List (List Int)} {a b : Nat} (h : pairK code a b = false) : pairsA code a (b + 1) = pairsA code a b := by
  unfold pairsA
  rw [List.range_succ, List.filter_append, List.map_append]
  simp [h]
theorem pairsA_first (code : List (List Int)) (a : Nat) : pairsA code a (a + 1) = [] := by
  unfold pairsA
  rw [List.map_eq_nil_iff, List.filter_eq_nil_iff]
  intro b hb
  have := List.mem_range.1 hb
  simp
  omega
theorem pairsA_all (code : List (List Int)) {a N : Nat} (h : N ≤ a + 1) : pairsA code a N = [] := by
  unfold pairsA
  rw [List.map_eq_nil_iff, List.filter_eq_nil_iff]
  intro b hb
  have := List.mem_range.1 hb
  simp
  omega
def pairsL (code : List (List Int)) (N m : Nat) : List (List Int) := ((List.range m).map fun a => pairsA code a N).flatten
theorem pairsL_next (code : List (List Int)) (N m : Nat) : pairsL code N (m + 1) = pairsL code N m ++ pairsA code m N := by
  unfold pairsL
  rw [List.range_succ, List.map_append, List.flatten_append]
  simp
theorem pairsA_len (code : List (List Int)) (a m : Nat) : (pairsA code a m).length ≤ m := by
  unfold pairsA
  rw [List.length_map]
  have := List.length_filter_le (fun b => decide (a < b) && pairK code a b) (List.range m)
  rw [List.length_range] at this
  exact this
theorem pairsA_sum (code : List (List Int)) (a m : Nat) : sumLen (pairsA code a m) = 2 * (pairsA code a m).length := by
  unfold pairsA sumLen
  induction (List.range m).filter fun b => decide (a < b) && pairK code a b with
  | nil => rfl
  | cons x t ih =>
    simp only [List.map_cons, List.sum_cons, List.length_cons, List.length_nil] at ih ⊢
    omega
theorem sumLen_app (l m : List (List Int)) : sumLen (l ++ m) = sumLen l + sumLen m := by
  unfold sumLen
  rw [List.map_append, List.sum_append]
theorem pairsL_len (code : List (List Int)) (N m : Nat) : (pairsL code N m).length ≤ m * N ∧ sumLen (pairsL code N m) = 2 * (pairsL code N m).length := by
  induction m with
  | zero => simp [pairsL, sumLen]
  | succ m ih =>
    rw [pairsL_next, List.length_append, sumLen_app, pairsA_sum]
    have := pairsA_len code m N
    rw [Nat.succ_mul]
    omega
end Go.Proofs.Ytnjojnnapdhijaa
