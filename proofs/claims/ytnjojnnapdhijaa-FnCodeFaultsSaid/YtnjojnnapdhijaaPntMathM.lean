/-
  Plain lemmas: elements that follow one another in a code; lists without repetition. Conditions: none; nothing of the program is named here.
  Plain law of faults: a list is a code just if it has no fault but those of parity. Conditions: none; nothing of the program is named here.
  The inner points of a panel by their numbers, in plain Lean. Conditions: a valid panel's sides.
-/
import Derived.Test.YtnjojnnapdhijaaFaultMathM
import Derived.Test.YtnjojnnapdhijaaNamesM
import Derived.Test.YtnjojnnapdhijaaTrMath3
namespace Go.Proofs.Ytnjojnnapdhijaa
open Go.RowKit
set_option linter.unusedVariables false

theorem len_le_of_sub {l : List Int} (hn : l.Nodup) : ∀ {m : List Int}, (∀ x ∈ l, x ∈ m) → l.length ≤ m.length := by
  induction l with
  | nil => intro m h; simp
  | cons a t ih =>
    intro m h
    rw [List.nodup_cons] at hn
    have ha : a ∈ m := h a List.mem_cons_self
    have h1 : ∀ x ∈ t, x ∈ m.erase a := fun x hx => by
      have hxa : x ≠ a := fun e => hn.1 (e ▸ hx)
      exact (List.mem_erase_of_ne hxa).2 (h x (List.mem_cons_of_mem _ hx))
    have h2 := ih hn.2 h1
    have h3 := List.length_erase_of_mem ha
    have h4 : 0 < m.length := List.length_pos_of_mem ha
    rw [List.length_cons]
    omega
/-- all numbers but 0 up to n, both ways -/
def bothL (n : Nat) : List Int := ((List.range n).map fun j : Nat => (j : Int) + 1) ++ (List.range n).map fun j : Nat => -((j : Int) + 1)
theorem bothL_length (n : Nat) : (bothL n).length = 2 * n := by simp [bothL]; omega
theorem bothL_mem {n : Nat} {x : Int} : x ∈ bothL n ↔ x ≠ 0 ∧ -(n : Int) ≤ x ∧ x ≤ n := by
  unfold bothL
  rw [List.mem_append, List.mem_map, List.mem_map]
  constructor
  · rintro (⟨j, hj, rfl⟩ | ⟨j, hj, rfl⟩)
    · have := List.mem_range.1 hj
      omega
    · have := List.mem_range.1 hj
      omega
  · intro h
    rcases Int.lt_or_le 0 x with h0 | h0
    · exact .inl ⟨(x - 1).toNat, List.mem_range.2 (by omega), by omega⟩
    · exact .inr ⟨(-x - 1).toNat, List.mem_range.2 (by omega), by omega⟩
theorem nodup_mapI {f : Nat → Int} {l : List Nat} (hl : l.Nodup) (hf : ∀ a b, f a = f b → a = b) : (l.map f).Nodup := by
  unfold List.Nodup at hl ⊢
  rw [List.pairwise_map]
  exact hl.imp fun h e => h (hf _ _ e)
theorem bothL_nodup (n : Nat) : (bothL n).Nodup := by
  unfold bothL
  rw [List.nodup_append]
  refine ⟨nodup_mapI List.nodup_range (fun a b h => by omega), nodup_mapI List.nodup_range (fun a b h => by omega), fun a ha b hb => ?_⟩
  obtain ⟨j, hj, rfl⟩ := List.mem_map.1 ha
  obtain ⟨k, hk, rfl⟩ := List.mem_map.1 hb
  omega
/-- In a good list of all its numbers each is met. -/
theorem Good.all {n : Nat} {l : List Int} (h : Good n l) (hl : l.length = 2 * n) {x : Int} (h0 : x ≠ 0) (h1 : -(n : Int) ≤ x) (h2 : x ≤ n) : x ∈ l := by
  by_cases hx : x ∈ l
  · exact hx
  · exfalso
    have hsub : ∀ y ∈ l, y ∈ (bothL n).erase x := fun y hy => by
      have hyx : y ≠ x := fun e => hx (e ▸ hy)
      exact (List.mem_erase_of_ne hyx).2 (bothL_mem.2 (h.2 y hy))
    have h3 := len_le_of_sub h.1 hsub
    have hm : x ∈ bothL n := bothL_mem.2 ⟨h0, h1, h2⟩
    rw [List.length_erase_of_mem hm, bothL_length] at h3
    have := List.length_pos_of_mem hm
    rw [bothL_length] at this
    omega
theorem valid_has {code : List (List Int)} (h : validC code = true) {x : Int} (h0 : x ≠ 0) (h1 : -((sumLen code / 2 : Nat) : Int) ≤ x) (h2 : x ≤ ((sumLen code / 2 : Nat) : Int)) : x ∈ code.flatten := by
  obtain ⟨N, g1, g2, g3, g4⟩ := validC_true h
  have e : sumLen code / 2 = N := by omega
  rw [e] at h1 h2
  exact g4.all (by rw [flatten_len]; exact g2) h0 h1 h2
theorem valid_apart' {code : List (List Int)} (h : validC code = true) : Apart code := by
  obtain ⟨N, h1, h2, h3, h4⟩ := validC_true h
  exact apart_of_nodup h4.1
theorem valid_sum {code : List (List Int)} (h : validC code = true) : code.length ≤ 40 ∧ sumLen code ≤ 240 ∧ sumLen code / 2 ≤ 120 := by
  obtain ⟨N, h1, h2, h3, h4⟩ := validC_true h
  omega
theorem apart_of_mem {code : List (List Int)} (ha : Apart code) {x : Int} (h : x ∈ code.flatten) : ∃ (i k : Nat) (xs : List Int), code[i]? = some xs ∧ xs[k]? = some x ∧ placeOf code x = some ((i : Int), (k : Int)) := by
  obtain ⟨xs, h1, h2⟩ := List.mem_flatten.1 h
  obtain ⟨i, hi⟩ := List.mem_iff_getElem?.1 h1
  obtain ⟨k, hk⟩ := List.mem_iff_getElem?.1 h2
  exact ⟨i, k, xs, hi, hk, ha i k xs x hi hk⟩

/-- two neighbours are a and b, in either order -/
def nbB (x y a b : Int) : Bool := (x == a && y == b) || (x == b && y == a)
def nxtK (xs : List Int) (a b : Int) (k : Nat) : Bool := nbB (xs.getD k 0) (xs.getD ((k + 1) % xs.length) 0) a b
def nxtRow (a b : Int) (xs : List Int) : Bool := (List.range xs.length).any (nxtK xs a b)
def nextC (code : List (List Int)) (a b : Int) : Bool := code.any (nxtRow a b)
/-- the same by places -/
def folB (code : List (List Int)) (p q : Int × Int) : Bool :=
  p.1 == q.1 && !(p.2 == q.2) && ((p.2 + 1) % ((code.getD p.1.toNat []).length : Int) == q.2 || (q.2 + 1) % ((code.getD p.1.toNat []).length : Int) == p.2)
theorem modN (k n : Nat) : ((k : Int) + 1) % (n : Int) = (((k + 1) % n : Nat) : Int) := by
  rw [Int.natCast_emod]; rfl
theorem nbB_iff {x y a b : Int} : nbB x y a b = true ↔ (x = a ∧ y = b) ∨ (x = b ∧ y = a) := by simp [nbB]
theorem nxtRow_iff {a b : Int} {xs : List Int} : nxtRow a b xs = true ↔ ∃ (k : Nat) (x y : Int), xs[k]? = some x ∧ xs[(k + 1) % xs.length]? = some y ∧ ((x = a ∧ y = b) ∨ (x = b ∧ y = a)) := by
  unfold nxtRow
  rw [List.any_eq_true]
  constructor
  · rintro ⟨k, hk, h⟩
    have hk := List.mem_range.1 hk
    have hm : (k + 1) % xs.length < xs.length := Nat.mod_lt _ (by omega)
    unfold nxtK at h
    rw [nbB_iff, getD_at (List.getElem?_eq_getElem hk), getD_at (List.getElem?_eq_getElem hm)] at h
    exact ⟨k, xs[k], xs[(k + 1) % xs.length], List.getElem?_eq_getElem hk, List.getElem?_eq_getElem hm, h⟩
  · rintro ⟨k, x, y, h1, h2, h⟩
    refine ⟨k, List.mem_range.2 (List.getElem?_eq_some_iff.1 h1).1, ?_⟩
    unfold nxtK
    rw [nbB_iff, getD_at h1, getD_at h2]
    exact h
theorem fol_next {code : List (List Int)} (ha : Apart code) {a b : Int} {i k j m : Nat} {xs ys : List Int} (hi : code[i]? = some xs) (hk : xs[k]? = some a) (hj : code[j]? = some ys) (hm : ys[m]? = some b) (hab : a ≠ b) :
    folB code ((i : Int), (k : Int)) ((j : Int), (m : Int)) = nextC code a b := by
  have e0 : (code.getD ((i : Int)).toNat []) = xs := by rw [show ((i : Int)).toNat = i by omega]; exact getD_row hi
  rw [Bool.eq_iff_iff]
  unfold folB nextC
  dsimp only
  rw [e0, modN, modN, List.any_eq_true]
  simp only [Bool.and_eq_true, Bool.or_eq_true, beq_iff_eq, Bool.not_eq_true', beq_eq_false_iff_ne, ne_eq]
  constructor
  · rintro ⟨⟨h1, h2⟩, h3⟩
    have hij : i = j := by omega
    subst hij
    rw [hi] at hj
    injection hj with hj
    subst hj
    refine ⟨xs, List.mem_of_getElem? hi, nxtRow_iff.2 ?_⟩
    rcases h3 with h3 | h3
    · exact ⟨k, a, b, hk, by rw [show (k + 1) % xs.length = m by omega]; exact hm, .inl ⟨rfl, rfl⟩⟩
    · exact ⟨m, b, a, hm, by rw [show (m + 1) % xs.length = k by omega]; exact hk, .inr ⟨rfl, rfl⟩⟩
  · rintro ⟨zs, hz, h⟩
    obtain ⟨n, hn⟩ := List.mem_iff_getElem?.1 hz
    obtain ⟨t, x, y, h1, h2, h3⟩ := nxtRow_iff.1 h
    have pa := ha i k xs a hi hk
    have pb := ha j m ys b hj hm
    have px := ha n t zs x hn h1
    have py := ha n _ zs y hn h2
    rcases h3 with ⟨rfl, rfl⟩ | ⟨rfl, rfl⟩
    · rw [pa] at px
      rw [pb] at py
      simp only [Option.some.injEq, Prod.mk.injEq] at px py
      have e1 : i = n := by omega
      have e2 : j = n := by omega
      have e3 : k = t := by omega
      subst e1 e2 e3
      rw [hi] at hn
      injection hn with hn
      subst hn
      rw [hi] at hj
      injection hj with hj
      subst hj
      have hkm : k ≠ m := fun e => hab (by subst e; rw [hk] at hm; injection hm)
      exact ⟨⟨rfl, by omega⟩, .inl (by omega)⟩
    · rw [pa] at py
      rw [pb] at px
      simp only [Option.some.injEq, Prod.mk.injEq] at px py
      have e1 : i = n := by omega
      have e2 : j = n := by omega
      have e3 : m = t := by omega
      subst e1 e2 e3
      rw [hi] at hn
      injection hn with hn
      subst hn
      rw [hi] at hj
      injection hj with hj
      subst hj
      have hkm : k ≠ m := fun e => hab (by subst e; rw [hk] at hm; injection hm)
      exact ⟨⟨rfl, by omega⟩, .inr (by omega)⟩
/-- In a valid code: elements that follow one another, by their places. -/
theorem fol_valid {code : List (List Int)} (h : validC code = true) {a b : Int} (h1 : a ∈ code.flatten) (h2 : b ∈ code.flatten) (hab : a ≠ b) : folB code (plc code a) (plc code b) = nextC code a b := by
  have ha := valid_apart' h
  obtain ⟨i, k, xs, hi, hk, p1⟩ := apart_of_mem ha h1
  obtain ⟨j, m, ys, hj, hm, p2⟩ := apart_of_mem ha h2
  unfold plc
  rw [p1, p2]
  exact fol_next ha hi hk hj hm hab

def loopK (code : List (List Int)) (k : Nat) : Bool := nextC code ((k : Int) + 1) (-(k : Int) - 1)
def pairK (code : List (List Int)) (a b : Nat) : Bool := nextC code ((a : Int) + 1) ((b : Int) + 1) && nextC code (-(a : Int) - 1) (-(b : Int) - 1)
def loopsL (code : List (List Int)) (m : Nat) : List Int := ((List.range m).filter (loopK code)).map Int.ofNat
theorem loopsL_yes {code : List (List Int)} {k : Nat} (h : loopK code k = true) : loopsL code (k + 1) = loopsL code k ++ [(k : Int)] := by
  unfold loopsL
  rw [List.range_succ, List.filter_append, List.map_append]
  simp [h]
theorem loopsL_no {code : List (List Int)} {k : Nat} (h : loopK code k = false) : loopsL code (k + 1) = loopsL code k := by
  unfold loopsL
  rw [List.range_succ, List.filter_append, List.map_append]
  simp [h]
theorem loopsL_len (code : List (List Int)) (m : Nat) : (loopsL code m).length ≤ m := by
  unfold loopsL
  rw [List.length_map]
  have := List.length_filter_le (loopK code) (List.range m)
  rw [List.length_range] at this
  exact this
/-- the pairs of a with numbers above it and below m -/
def pairsA (code : List (List Int)) (a m : Nat) : List (List Int) := ((List.range m).filter fun b => decide (a < b) && pairK code a b).map fun b : Nat => [(a : Int), (b : Int)]
theorem pairsA_yes {code : List (List Int)} {a b : Nat} (hab : a < b) (h : pairK code a b = true) : pairsA code a (b + 1) = pairsA code a b ++ [[(a : Int), (b : Int)]] := by
  unfold pairsA
  rw [List.range_succ, List.filter_append, List.map_append]
  simp [h, hab]
theorem pairsA_no {code : List (List Int)} {a b : Nat} (h : pairK code a b = false) : pairsA code a (b + 1) = pairsA code a b := by
  unfold pairsA
  rw [List.range_succ, List.filter_append, List.map_append]
  simp [h]
theorem pairsA_first (code : List (List Int)) (a : Nat) : pairsA code a (a + 1) = [] := by
  unfold pairsA
  rw [List.map_eq_nil_iff, List.filter_eq_nil_iff]
  intro b hb
  have := List.mem_range.1 hb
  simp
  omega
theorem pairsA_all (code : List (List Int)) {a N : Nat} (h : N ≤ a + 1) : pairsA code a N = [] := by
  unfold pairsA
  rw [List.map_eq_nil_iff, List.filter_eq_nil_iff]
  intro b hb
  have := List.mem_range.1 hb
  simp
  omega
def pairsL (code : List (List Int)) (N m : Nat) : List (List Int) := ((List.range m).map fun a => pairsA code a N).flatten
theorem pairsL_next (code : List (List Int)) (N m : Nat) : pairsL code N (m + 1) = pairsL code N m ++ pairsA code m N := by
  unfold pairsL
  rw [List.range_succ, List.map_append, List.flatten_append]
  simp
theorem pairsA_len (code : List (List Int)) (a m : Nat) : (pairsA code a m).length ≤ m := by
  unfold pairsA
  rw [List.length_map]
  have := List.length_filter_le (fun b => decide (a < b) && pairK code a b) (List.range m)
  rw [List.length_range] at this
  exact this
theorem pairsA_sum (code : List (List Int)) (a m : Nat) : sumLen (pairsA code a m) = 2 * (pairsA code a m).length := by
  unfold pairsA sumLen
  induction (List.range m).filter fun b => decide (a < b) && pairK code a b with
  | nil => rfl
  | cons x t ih =>
    simp only [List.map_cons, List.sum_cons, List.length_cons, List.length_nil] at ih ⊢
    omega
theorem sumLen_app (l m : List (List Int)) : sumLen (l ++ m) = sumLen l + sumLen m := by
  unfold sumLen
  rw [List.map_append, List.sum_append]
theorem pairsL_len (code : List (List Int)) (N m : Nat) : (pairsL code N m).length ≤ m * N ∧ sumLen (pairsL code N m) = 2 * (pairsL code N m).length := by
  induction m with
  | zero => simp [pairsL, sumLen]
  | succ m ih =>
    rw [pairsL_next, List.length_append, sumLen_app, pairsA_sum]
    have := pairsA_len code m N
    rw [Nat.succ_mul]
    omega
end Go.Proofs.Ytnjojnnapdhijaa

namespace Go.Proofs.Ytnjojnnapdhijaa
open Go.RowKit
set_option linter.unusedVariables false

theorem valid_many {code : List (List Int)} (hv : validC code = true) : ∀ j, j < code.length → manyP code j = false := many_none (valid_sum hv).2.1
theorem valid_badP {code : List (List Int)} (hv : validC code = true) : (posC code).find? (badP code) = none := by
  obtain ⟨N, h1, h2, h3, h4⟩ := validC_true hv
  rw [List.find?_eq_none]
  rintro ⟨x, a, b⟩ hq
  obtain ⟨i, k, xs, rfl, rfl, hi, hk⟩ := posC_mem hq
  obtain ⟨g0, g1, g2⟩ := h4.2 x (List.mem_flatten.2 ⟨xs, List.mem_of_getElem? hi, List.mem_of_getElem? hk⟩)
  have hp := valid_apart' hv i k xs x hi hk
  have hb : inB x (-halfC code) (halfC code) = true := inB_true.2 (by unfold halfC; omega)
  unfold badP
  simp only [hp, hb]
  simp [g0]
theorem valid_absent {code : List (List Int)} (hv : validC code = true) : (posC code).find? (absentP code) = none := by
  obtain ⟨N, h1, h2, h3, h4⟩ := validC_true hv
  rw [List.find?_eq_none]
  rintro ⟨x, a, b⟩ hq
  obtain ⟨i, k, xs, rfl, rfl, hi, hk⟩ := posC_mem hq
  obtain ⟨g0, g1, g2⟩ := h4.2 x (List.mem_flatten.2 ⟨xs, List.mem_of_getElem? hi, List.mem_of_getElem? hk⟩)
  have hm := valid_has hv (x := -x) (by omega) (by omega) (by omega)
  have hn : placeOf code (-x) ≠ none := fun e => placeOf_none.1 e hm
  unfold absentP
  cases hp : placeOf code (-x) with
  | none => exact absurd hp hn
  | some p => simp
theorem valid_kind {code : List (List Int)} (hv : validC code = true) : (faultC code).1 = 0 ∨ (faultC code).1 = 6 := by
  have hl := (valid_sum hv).1
  unfold faultC
  rw [if_neg (by omega), range_find_none (valid_many hv), valid_badP hv]
  dsimp only
  rw [valid_absent hv]
  dsimp only
  cases (posC code).find? (oddP code) with
  | none => exact .inl rfl
  | some q => exact .inr rfl
theorem apart_nodup {code : List (List Int)} (h : Apart code) : code.flatten.Nodup := by
  unfold List.Nodup
  rw [List.pairwise_flatten]
  refine ⟨fun xs hxs => ?_, ?_⟩
  · obtain ⟨i, hi⟩ := List.mem_iff_getElem?.1 hxs
    rw [List.pairwise_iff_getElem]
    intro a b ha hb hab e
    have h1 := h i a xs _ hi (List.getElem?_eq_getElem ha)
    have h2 := h i b xs _ hi (List.getElem?_eq_getElem hb)
    rw [e, h2] at h1
    injection h1 with h1
    injection h1 with _ h1
    omega
  · rw [List.pairwise_iff_getElem]
    intro i j hi hj hij x hx y hy e
    subst e
    obtain ⟨a, ha⟩ := List.mem_iff_getElem?.1 hx
    obtain ⟨b, hb⟩ := List.mem_iff_getElem?.1 hy
    have h1 := h i a _ x (List.getElem?_eq_getElem hi) ha
    have h2 := h j b _ x (List.getElem?_eq_getElem hj) hb
    rw [h1] at h2
    injection h2 with h2
    injection h2 with h2 _
    omega
/-- A list without repetition and without 0 that has each element's negation is even. -/
theorem even_of_neg {l : List Int} (hn : l.Nodup) (h0 : ∀ x ∈ l, x ≠ 0) (hm : ∀ x ∈ l, -x ∈ l) : l.length % 2 = 0 := by
  have hsplit : ∀ m : List Int, (∀ x ∈ m, x ≠ 0) → m.length = (m.filter fun x => decide (0 < x)).length + (m.filter fun x => decide (x < 0)).length := by
    intro m
    induction m with
    | nil => intro _; rfl
    | cons x t ih =>
      intro h
      have h1 := h x List.mem_cons_self
      have h2 := ih fun y hy => h y (List.mem_cons_of_mem _ hy)
      by_cases hp : 0 < x
      · rw [List.filter_cons_of_pos (by simpa using hp), List.filter_cons_of_neg (by simp; omega), List.length_cons, List.length_cons]
        omega
      · rw [List.filter_cons_of_neg (by simpa using hp), List.filter_cons_of_pos (by simp; omega), List.length_cons, List.length_cons]
        omega
  have hneg : ∀ m : List Int, m.Nodup → (m.map fun x => -x).Nodup := by
    intro m h
    unfold List.Nodup at h ⊢
    rw [List.pairwise_map]
    exact h.imp fun h e => h (by omega)
  have e := hsplit l h0
  have h1 : ((l.filter fun x => decide (0 < x)).map fun x => -x).length ≤ (l.filter fun x => decide (x < 0)).length := by
    refine len_le_of_sub (hneg _ (List.Pairwise.sublist List.filter_sublist hn)) fun y hy => ?_
    obtain ⟨x, hx, rfl⟩ := List.mem_map.1 hy
    obtain ⟨hx1, hx2⟩ := List.mem_filter.1 hx
    have := of_decide_eq_true hx2
    exact List.mem_filter.2 ⟨hm x hx1, decide_eq_true (by omega)⟩
  have h2 : ((l.filter fun x => decide (x < 0)).map fun x => -x).length ≤ (l.filter fun x => decide (0 < x)).length := by
    refine len_le_of_sub (hneg _ (List.Pairwise.sublist List.filter_sublist hn)) fun y hy => ?_
    obtain ⟨x, hx, rfl⟩ := List.mem_map.1 hy
    obtain ⟨hx1, hx2⟩ := List.mem_filter.1 hx
    have := of_decide_eq_true hx2
    exact List.mem_filter.2 ⟨hm x hx1, decide_eq_true (by omega)⟩
  rw [List.length_map] at h1 h2
  omega
theorem kind_valid {code : List (List Int)} (h : (faultC code).1 = 0 ∨ (faultC code).1 = 6) : validC code = true := by
  by_cases hl : 40 < code.length
  · rw [fault_long hl] at h
    simp at h
  · unfold faultC at h
    rw [if_neg hl] at h
    split at h
    · simp at h
    · rename_i h1
      split at h
      · rename_i q hq
        exfalso
        revert h
        unfold badKind
        dsimp only
        split
        · simp
        · split <;> simp
      · rename_i h2
        split at h
        · simp at h
        · rename_i h3
          have hap := apart_of_bad h2
          have hnd := apart_nodup hap
          have hsum : sumLen code ≤ 240 := by
            by_cases hz : code.length = 0
            · have : code = [] := List.eq_nil_of_length_eq_zero hz
              rw [this]
              simp [sumLen]
            · rw [List.find?_eq_none] at h1
              have := h1 (code.length - 1) (List.mem_range.2 (by omega))
              unfold manyP at this
              rw [show code.length - 1 + 1 = code.length by omega, List.take_length] at this
              simpa using this
          have hg : ∀ x ∈ code.flatten, x ≠ 0 ∧ inB x (-halfC code) (halfC code) = true ∧ -x ∈ code.flatten := fun x hx => by
            obtain ⟨xs, hxs, hx2⟩ := List.mem_flatten.1 hx
            obtain ⟨i, hi⟩ := List.mem_iff_getElem?.1 hxs
            obtain ⟨k, hk⟩ := List.mem_iff_getElem?.1 hx2
            obtain ⟨g1, g2⟩ := good_of_bad h2 hi hk
            refine ⟨g1, g2, ?_⟩
            rw [List.find?_eq_none] at h3
            obtain ⟨t, ht⟩ := posC_split hi hk
            have := h3 (x, (i : Int), (k : Int)) (by rw [ht]; simp)
            unfold absentP at this
            by_cases hm : -x ∈ code.flatten
            · exact hm
            · exfalso
              exact this (by rw [placeOf_none.2 hm]; rfl)
          have hev := even_of_neg hnd (fun x hx => (hg x hx).1) (fun x hx => (hg x hx).2.2)
          rw [flatten_len] at hev
          rw [validC_good (N := sumLen code / 2) (by omega) (by omega) (by omega)]
          refine decide_eq_true ⟨hnd, fun x hx => ?_⟩
          obtain ⟨g1, g2, _⟩ := hg x hx
          have := inB_true.1 g2
          unfold halfC at this
          exact ⟨g1, by omega, by omega⟩
/-- A list is a code just if it has no fault but those of parity. -/
theorem valid_iff (code : List (List Int)) : validC code = decide ((faultC code).1 = 0 ∨ (faultC code).1 = 6) := by
  by_cases hv : validC code = true
  · rw [hv, decide_eq_true (valid_kind hv)]
  · rw [Bool.eq_false_iff.2 hv, decide_eq_false fun h => hv (kind_valid h)]
theorem kind_range (code : List (List Int)) : 0 ≤ (faultC code).1 ∧ (faultC code).1 ≤ 6 := by
  unfold faultC
  split
  · simp
  · split
    · simp
    · split
      · unfold badKind
        dsimp only
        split
        · simp
        · split <;> simp
      · split
        · simp
        · split <;> simp
end Go.Proofs.Ytnjojnnapdhijaa

namespace Go.Proofs.Ytnjojnnapdhijaa
set_option linter.unusedVariables false

/-- the inner point with a number -/
def pntX (wd k : Int) : Int := if k % (2 * wd - 1) < wd - 1 then 2 * (k % (2 * wd - 1)) + 2 else 2 * (k % (2 * wd - 1) - (wd - 1)) + 1
def pntY (wd k : Int) : Int := if k % (2 * wd - 1) < wd - 1 then 2 * (k / (2 * wd - 1)) + 1 else 2 * (k / (2 * wd - 1)) + 2
def pnt (wd k : Int) : Int × Int := (pntX wd k, pntY wd k)
section
variable {wd ht : Int}
theorem pnt_facts (hs : Sz wd ht) {k : Nat} (hk : (k : Int) < innerN wd ht) : OnP wd ht (pntX wd k) (pntY wd k) ∧ ¬ Edge wd ht (pntX wd k) (pntY wd k) ∧ numI wd (pntX wd k) (pntY wd k) = (k : Int) ∧ (1 ≤ pntY wd k ∧ pntY wd k ≤ 2 * ht - 1) ∧ (1 ≤ pntX wd k ∧ pntX wd k ≤ 2 * wd - 1) := by
  obtain ⟨s1, s2, s3, s4⟩ := hs
  unfold innerN at hk
  unfold OnP Edge numI pntX pntY
  by_cases hr : (k : Int) % (2 * wd - 1) < wd - 1
  · simp only [if_pos hr]
    rcases eight s1 s2 with rfl | rfl | rfl | rfl | rfl | rfl | rfl | rfl <;> omega
  · simp only [if_neg hr]
    rcases eight s1 s2 with rfl | rfl | rfl | rfl | rfl | rfl | rfl | rfl <;> omega
/-- rows of points -/
theorem pnt_row (hs : Sz wd ht) {k : Nat} (hk : (k : Int) < innerN wd ht) : rowI wd (pntY wd k) ≤ (k : Int) ∧ (k : Int) < rowI wd (pntY wd k + 1) ∧ pntX wd k = 2 * ((k : Int) - rowI wd (pntY wd k)) + 1 + (pntY wd k) % 2 := by
  obtain ⟨s1, s2, s3, s4⟩ := hs
  unfold innerN at hk
  unfold rowI pntX pntY
  by_cases hr : (k : Int) % (2 * wd - 1) < wd - 1
  · simp only [if_pos hr]
    rcases eight s1 s2 with rfl | rfl | rfl | rfl | rfl | rfl | rfl | rfl <;> omega
  · simp only [if_neg hr]
    rcases eight s1 s2 with rfl | rfl | rfl | rfl | rfl | rfl | rfl | rfl <;> omega
theorem row_mono (h1 : 1 ≤ wd) (h2 : wd ≤ 8) {y z : Int} (hy : 1 ≤ y) (hyz : y ≤ z) (hz : z ≤ 16) : rowI wd y ≤ rowI wd z := by
  unfold rowI
  rcases eight h1 h2 with rfl | rfl | rfl | rfl | rfl | rfl | rfl | rfl <;> omega
/-- an inner point is the one with its number -/
theorem pnt_num (hs : Sz wd ht) {x y : Int} (hp : OnP wd ht x y) (he : ¬ Edge wd ht x y) {k : Nat} (hk : numI wd x y = (k : Int)) : pnt wd k = (x, y) := by
  obtain ⟨s1, s2, s3, s4⟩ := hs
  unfold OnP at hp
  unfold Edge at he
  unfold numI at hk
  unfold pnt pntX pntY
  have key : ((k : Int) % (2 * wd - 1) < wd - 1 → 2 * ((k : Int) % (2 * wd - 1)) + 2 = x ∧ 2 * ((k : Int) / (2 * wd - 1)) + 1 = y) ∧ (¬ (k : Int) % (2 * wd - 1) < wd - 1 → 2 * ((k : Int) % (2 * wd - 1) - (wd - 1)) + 1 = x ∧ 2 * ((k : Int) / (2 * wd - 1)) + 2 = y) := by
    by_cases hy : y % 2 = 1
    · obtain ⟨m, rfl⟩ : ∃ m, y = 2 * m + 1 := ⟨(y - 1) / 2, by omega⟩
      obtain ⟨n, rfl⟩ : ∃ n, x = 2 * n + 2 := ⟨(x - 2) / 2, by omega⟩
      have e1 : (2 * m + 1) / 2 = m := by omega
      have e2 : (2 * n + 2 - 1) / 2 = n := by omega
      have hn : 0 ≤ n ∧ n < wd - 1 := by omega
      rw [e1, e2] at hk
      have e3 : (k : Int) = (2 * wd - 1) * m + n := by
        rcases eight s1 s2 with rfl | rfl | rfl | rfl | rfl | rfl | rfl | rfl <;> omega
      have e4 : (k : Int) / (2 * wd - 1) = m := by
        rcases eight s1 s2 with rfl | rfl | rfl | rfl | rfl | rfl | rfl | rfl <;> omega
      have e5 : (k : Int) % (2 * wd - 1) = n := by
        rcases eight s1 s2 with rfl | rfl | rfl | rfl | rfl | rfl | rfl | rfl <;> omega
      rw [e4, e5]
      exact ⟨fun _ => ⟨rfl, rfl⟩, fun h => absurd hn.2 h⟩
    · obtain ⟨m, rfl⟩ : ∃ m, y = 2 * m + 2 := ⟨(y - 2) / 2, by omega⟩
      obtain ⟨n, rfl⟩ : ∃ n, x = 2 * n + 1 := ⟨(x - 1) / 2, by omega⟩
      have e1 : (2 * m + 2) / 2 = m + 1 := by omega
      have e2 : (2 * n + 1 - 1) / 2 = n := by omega
      have hn : 0 ≤ n ∧ n < wd := by omega
      rw [e1, e2] at hk
      have e3 : (k : Int) = (2 * wd - 1) * m + (n + (wd - 1)) := by
        rcases eight s1 s2 with rfl | rfl | rfl | rfl | rfl | rfl | rfl | rfl <;> omega
      have e4 : (k : Int) / (2 * wd - 1) = m := by
        rcases eight s1 s2 with rfl | rfl | rfl | rfl | rfl | rfl | rfl | rfl <;> omega
      have e5 : (k : Int) % (2 * wd - 1) = n + (wd - 1) := by
        rcases eight s1 s2 with rfl | rfl | rfl | rfl | rfl | rfl | rfl | rfl <;> omega
      rw [e4, e5]
      exact ⟨fun h => by omega, fun _ => ⟨by omega, rfl⟩⟩
  by_cases hr : (k : Int) % (2 * wd - 1) < wd - 1
  · rw [if_pos hr, if_pos hr]
    rw [(key.1 hr).1, (key.1 hr).2]
  · rw [if_neg hr, if_neg hr]
    rw [(key.2 hr).1, (key.2 hr).2]
end
/-- the first n points -/
def ptsN (wd : Int) (n : Nat) : List (Int × Int) := (List.range n).map fun k : Nat => pnt wd (k : Int)
theorem ptsN_len (wd : Int) (n : Nat) : (ptsN wd n).length = n := by simp [ptsN]
theorem ptsN_at {wd : Int} {n k : Nat} (h : k < n) : (ptsN wd n)[k]? = some (pnt wd k) := by simp [ptsN, h]
theorem ptsN_next (wd : Int) (n : Nat) : ptsN wd (n + 1) = ptsN wd n ++ [pnt wd n] := by
  unfold ptsN
  rw [List.range_succ, List.map_append]
  rfl
end Go.Proofs.Ytnjojnnapdhijaa
