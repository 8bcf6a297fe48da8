/-
  Plain lemmas: elements that follow one another in a code; lists without repetition. Conditions: none; nothing of the program is named here.
-/
import Derived.Test.YtnjojnnapdhijaaFaultMath
import Derived.Test.YtnjojnnapdhijaaNames
namespace Go.Proofs.Ytnjojnnapdhijaa
open Go.RowKit
set_option linter.unusedVariables false

theorem len_le_of_sub {l : List Int} (hn : l.Nodup) : ∀ {m : List Int}, (∀ x ∈ l, x ∈ m) → l.length ≤ m.length := by
  induction l with
  | nil => intro m h; simp
  | cons a t ih =>
    intro m h
    rw [List.nodup_cons] at hn
    have ha : a ∈ m := h a List.mem_cons_self
    have h1 : ∀ x ∈ t, x ∈ m.erase a := fun x hx => by
      have hxa : x ≠ a := fun e => hn.1 (e ▸ hx)
      exact (List.mem_erase_of_ne hxa).2 (h x (List.mem_cons_of_mem _ hx))
    have h2 := ih hn.2 h1
    have h3 := List.length_erase_of_mem ha
    have h4 : 0 < m.length := List.length_pos_of_mem ha
    rw [List.length_cons]
    omega
/-- all numbers but 0 up to n, both ways -/
def bothL (n : Nat) : List Int := ((List.range n).map fun j : Nat => (j : Int) + 1) ++ (List.range n).map fun j : Nat => -((j : Int) + 1)
theorem bothL_length (n : Nat) : (bothL n).length = 2 * n := by simp [bothL]; omega
theorem bothL_mem {n : Nat} {x : Int} : x ∈ bothL n ↔ x ≠ 0 ∧ -(n : Int) ≤ x ∧ x ≤ n := by
  unfold bothL
  rw [List.mem_append, List.mem_map, List.mem_map]
  constructor
  · rintro (⟨j, hj, rfl⟩ | ⟨j, hj, rfl⟩)
    · have := List.mem_range.1 hj
      omega
    · have := List.mem_range.1 hj
      omega
  · intro h
    rcases Int.lt_or_le 0 x with h0 | h0
    · exact .inl ⟨(x - 1).toNat, List.mem_range.2 (by omega), by omega⟩
    · exact .inr ⟨(-x - 1).toNat, List.mem_range.2 (by omega), by omega⟩
theorem nodup_mapI {f : Nat → Int} {l : List Nat} (hl : l.Nodup) (hf : ∀ a b, f a = f b → a = b) : (l.map f).Nodup := by
  unfold List.Nodup at hl ⊢
  rw [List.pairwise_map]
  exact hl.imp fun h e => h (hf _ _ e)
theorem bothL_nodup (n : Nat) : (bothL n).Nodup := by
  unfold bothL
  rw [List.nodup_append]
  refine ⟨nodup_mapI List.nodup_range (fun a b h => by omega), nodup_mapI List.nodup_range (fun a b h => by omega), fun a ha b hb => ?_⟩
  obtain ⟨j, hj, rfl⟩ := List.mem_map.1 ha
  obtain ⟨k, hk, rfl⟩ := List.mem_map.1 hb
  omega
/-- In a good list of all its numbers each is met. -/
theorem Good.all {n : Nat} {l : List Int} (h : Good n l) (hl : l.length = 2 * n) {x : Int} (h0 : x ≠ 0) (h1 : -(n : Int) ≤ x) (h2 : x ≤ n) : x ∈ l := by
  by_cases hx : x ∈ l
  · exact hx
  · exfalso
    have hsub : ∀ y ∈ l, y ∈ (bothL n).erase x := fun y hy => by
      have hyx : y ≠ x := fun e => hx (e ▸ hy)
      exact (List.mem_erase_of_ne hyx).2 (bothL_mem.2 (h.2 y hy))
    have h3 := len_le_of_sub h.1 hsub
    have hm : x ∈ bothL n := bothL_mem.2 ⟨h0, h1, h2⟩
    rw [List.length_erase_of_mem hm, bothL_length] at h3
    have := List.length_pos_of_mem hm
    rw [bothL_length] at this
    omega
theorem valid_has {code : List (List Int)} (h : validC code = true) {x : Int} (h0 : x ≠ 0) (h1 : -((sumLen code / 2 : Nat) : Int) ≤ x) (h2 : x ≤ ((sumLen code / 2 : Nat) : Int)) : x ∈ code.flatten := by
  obtain ⟨N, g1, g2, g3, g4⟩ := validC_true h
  have e : sumLen code / 2 = N := by omega
  rw [e] at h1 h2
  exact g4.all (by rw [flatten_len]; exact g2) h0 h1 h2
theorem valid_apart' {code : List (List Int)} (h : validC code = true) : Apart code := by
  obtain ⟨N, h1, h2, h3, h4⟩ := validC_true h
  exact apart_of_nodup h4.1
theorem valid_sum {code : List (List Int)} (h : validC code = true) : code.length ≤ 40 ∧ sumLen code ≤ 240 ∧ sumLen code / 2 ≤ 120 := by
  obtain ⟨N, h1, h2, h3, h4⟩ := validC_true h
  omega
theorem apart_of_mem {code : List (List Int)} (ha : Apart code) {x : Int} (h : x ∈ code.flatten) : ∃ (i k : Nat) (xs : List Int), code[i]? = some xs ∧ xs[k]? = some x ∧ placeOf code x = some ((i : Int), (k : Int)) := by
  obtain ⟨xs, h1, h2⟩ := List.mem_flatten.1 h
  obtain ⟨i, hi⟩ := List.mem_iff_getElem?.1 h1
  obtain ⟨k, hk⟩ := List.mem_iff_getElem?.1 h2
  exact ⟨i, k, xs, hi, hk, ha i k xs x hi hk⟩

/-- two neighbours are a and b, in either order -/
def nbB (x y a b : Int) : Bool := (x == a && y == b) || (x == b && y == a)
def nxtK (xs : List Int) (a b : Int) (k : Nat) : Bool := nbB (xs.getD k 0) (xs.getD ((k + 1) % xs.length) 0) a b
def nxtRow (a b : Int) (xs : List Int) : Bool := (List.range xs.length).any (nxtK xs a b)
def nextC (code : List (List Int)) (a b : Int) : Bool := code.any (nxtRow a b)
/-- the same by places -/
def folB (code : List (List Int)) (p q : Int × Int) : Bool :=
  p.1 == q.1 && !(p.2 == q.2) && ((p.2 + 1) % ((code.getD p.1.toNat []).length : Int) == q.2 || (q.2 + 1) % ((code.getD p.1.toNat []).length : Int) == p.2)
theorem modN (k n : Nat) : ((k : Int) + 1) % (n : Int) = (((k + 1) % n : Nat) : Int) := by
  rw [Int.natCast_emod]; rfl
theorem nbB_iff {x y a b : Int} : nbB x y a b = true ↔ (x = a ∧ y = b) ∨ (x = b ∧ y = a) := by simp [nbB]
theorem nxtRow_iff {a b : Int} {xs : List Int} : nxtRow a b xs = true ↔ ∃ (k : Nat) (x y : Int), xs[k]? = some x ∧ xs[(k + 1) % xs.length]? = some y ∧ ((x = a ∧ y = b) ∨ (x = b ∧ y = a)) := by
  unfold nxtRow
  rw [List.any_eq_true]
  constructor
  · rintro ⟨k, hk, h⟩
    have hk := List.mem_range.1 hk
    have hm : (k + 1) % xs.length < xs.length := Nat.mod_lt _ (by omega)
    unfold nxtK at h
    rw [nbB_iff, getD_at (List.getElem?_eq_getElem hk), getD_at (List.getElem?_eq_getElem hm)] at h
    exact ⟨k, xs[k], xs[(k + 1) % xs.length], List.getElem?_eq_getElem hk, List.getElem?_eq_getElem hm, h⟩
  · rintro ⟨k, x, y, h1, h2, h⟩
    refine ⟨k, List.mem_range.2 (List.getElem?_eq_some_iff.1 h1).1, ?_⟩
    unfold nxtK
    rw [nbB_iff, getD_at h1, getD_at h2]
    exact h
theorem fol_next {code : List (List Int)} (ha : Apart code) {a b : Int} {i k j m : Nat} {xs ys : List Int} (hi : code[i]? = some xs) (hk : xs[k]? = some a) (hj : code[j]? = some ys) (hm : ys[m]? = some b) (hab : a ≠ b) :
    folB code ((i : Int), (k : Int)) ((j : Int), (m : Int)) = nextC code a b := by
  have e0 : (code.getD ((i : Int)).toNat []) = xs := by rw [show ((i : Int)).toNat = i by omega]; exact getD_row hi
  rw [Bool.eq_iff_iff]
  unfold folB nextC
  dsimp only
  rw [e0, modN, modN, List.any_eq_true]
  simp only [Bool.and_eq_true, Bool.or_eq_true, beq_iff_eq, Bool.not_eq_true', beq_eq_false_iff_ne, ne_eq]
  constructor
  · rintro ⟨⟨h1, h2⟩, h3⟩
    have hij : i = j := by omega
    subst hij
    rw [hi] at hj
    injection hj with hj
    subst hj
    refine ⟨xs, List.mem_of_getElem? hi, nxtRow_iff.2 ?_⟩
    rcases h3 with h3 | h3
    · exact ⟨k, a, b, hk, by rw [show (k + 1) % xs.length = m by omega]; exact hm, .inl ⟨rfl, rfl⟩⟩
    · exact ⟨m, b, a, hm, by rw [show (m + 1) % xs.length = k by omega]; exact hk, .inr ⟨rfl, rfl⟩⟩
  · rintro ⟨zs, hz, h⟩
    obtain ⟨n, hn⟩ := List.mem_iff_getElem?.1 hz
    obtain ⟨t, x, y, h1, h2, h3⟩ := nxtRow_iff.1 h
    have pa := ha i k xs a hi hk
    have pb := ha j m ys b hj hm
    have px := ha n t zs x hn h1
    have py := ha n _ zs y hn h2
    rcases h3 with ⟨rfl, rfl⟩ | ⟨rfl, rfl⟩
    · rw [pa] at px
      rw [pb] at py
      simp only [Option.some.injEq, Prod.mk.injEq] at px py
      have e1 : i = n := by omega
      have e2 : j = n := by omega
      have e3 : k = t := by omega
      subst e1 e2 e3
      rw [hi] at hn
      injection hn with hn
      subst hn
      rw [hi] at hj
      injection hj with hj
      subst hj
      have hkm : k ≠ m := fun e => hab (by subst e; rw [hk] at hm; injection hm)
      exact ⟨⟨rfl, by omega⟩, .inl (by omega)⟩
    · rw [pa] at py
      rw [pb] at px
      simp only [Option.some.injEq, Prod.mk.injEq] at px py
      have e1 : i = n := by omega
      have e2 : j = n := by omega
      have e3 : m = t := by omega
      subst e1 e2 e3
      rw [hi] at hn
      injection hn with hn
      subst hn
      rw [hi] at hj
      injection hj with hj
      subst hj
      have hkm : k ≠ m := fun e => hab (by subst e; rw [hk] at hm; injection hm)
      exact ⟨⟨rfl, by omega⟩, .inr (by omega)⟩
/-- In a valid code: elements that follow one another, by their places. -/
theorem fol_valid {code : List (List Int)} (h : validC code = true) {a b : Int} (h1 : a ∈ code.flatten) (h2 : b ∈ code.flatten) (hab : a ≠ b) : folB code (plc code a) (plc code b) = nextC code a b := by
  have ha := valid_apart' h
  obtain ⟨i, k, xs, hi, hk, p1⟩ := apart_of_mem ha h1
  obtain ⟨j, m, ys, hj, hm, p2⟩ := apart_of_mem ha h2
  unfold plc
  rw [p1, p2]
  exact fol_next ha hi hk hj hm hab

def loopK (code : List (List Int)) (k : Nat) : Bool := nextC code ((k : Int) + 1) (-(k : Int) - 1)
def pairK (code : List (List Int)) (a b : Nat) : Bool := nextC code ((a : Int) + 1) ((b : Int) + 1) && nextC code (-(a : Int) - 1) (-(b : Int) - 1)
def loopsL (code : List (List Int)) (m : Nat) : List Int := ((List.range m).filter (loopK code)).map Int.ofNat
theorem loopsL_yes {code : List (List Int)} {k : Nat} (h : loopK code k = true) : loopsL code (k + 1) = loopsL code k ++ [(k : Int)] := by
  unfold loopsL
  rw [List.range_succ, List.filter_append, List.map_append]
  simp [h]
theorem loopsL_no {code : List (List Int)} {k : Nat} (h : loopK code k = false) : loopsL code (k + 1) = loopsL code k := by
  unfold loopsL
  rw [List.range_succ, List.filter_append, List.map_append]
  simp [h]
theorem loopsL_len (code : List (List Int)) (m : Nat) : (loopsL code m).length ≤ m := by
  unfold loopsL
  rw [List.length_map]
  have := List.length_filter_le (loopK code) (List.range m)
  rw [List.length_range] at this
  exact this
/-- the pairs of a with numbers above it and below m -/
def pairsA (code : List (List Int)) (a m : Nat) : List (List Int) := ((List.range m).filter fun b => decide (a < b) && pairK code a b).map fun b : Nat => [(a : Int), (b : Int)]
theorem pairsA_yes {code : List (List Int)} {a b : Nat} (hab : a < b) (h : pairK code a b = true) : pairsA code a (b + 1) = pairsA code a b ++ [[(a : Int), (b : Int)]] := by
  unfold pairsA
  rw [List.range_succ, List.filter_append, List.map_append]
  simp [h, hab]
theorem pairsA_no {code : List (List Int)} {a b : Nat} (h : pairK code a b = false) : pairsA code a (b + 1) = pairsA code a b := by
  unfold pairsA
  rw [List.range_succ, List.filter_append, List.map_append]
  simp [h]
theorem pairsA_first (code : List (List Int)) (a : Nat) : pairsA code a (a + 1) = [] := by
  unfold pairsA
  rw [List.map_eq_nil_iff, List.filter_eq_nil_iff]
  intro b hb
  have := List.mem_range.1 hb
  simp
  omega
theorem pairsA_all (code : List (List Int)) {a N : Nat} (h : N ≤ a + 1) : pairsA code a N = [] := by
  unfold pairsA
  rw [List.map_eq_nil_iff, List.filter_eq_nil_iff]
  intro b hb
  have := List.mem_range.1 hb
  simp
  omega
def pairsL (code : List (List Int)) (N m : Nat) : List (List Int) := ((List.range m).map fun a => pairsA code a N).flatten
theorem pairsL_next (code : List (List Int)) (N m : Nat) : pairsL code N (m + 1) = pairsL code N m ++ pairsA code m N := by
  unfold pairsL
  rw [List.range_succ, List.map_append, List.flatten_append]
  simp
theorem pairsA_len (code : List (List Int)) (a m : Nat) : (pairsA code a m).length ≤ m := by
  unfold pairsA
  rw [List.length_map]
  have := List.length_filter_le (fun b => decide (a < b) && pairK code a b) (List.range m)
  rw [List.length_range] at this
  exact this
theorem pairsA_sum (code : List (List Int)) (a m : Nat) : sumLen (pairsA code a m) = 2 * (pairsA code a m).length := by
  unfold pairsA sumLen
  induction (List.range m).filter fun b => decide (a < b) && pairK code a b with
  | nil => rfl
  | cons x t ih =>
    simp only [List.map_cons, List.sum_cons, List.length_cons, List.length_nil] at ih ⊢
    omega
theorem sumLen_app (l m : List (List Int)) : sumLen (l ++ m) = sumLen l + sumLen m := by
  unfold sumLen
  rw [List.map_append, List.sum_append]
theorem pairsL_len (code : List (List Int)) (N m : Nat) : (pairsL code N m).length ≤ m * N ∧ sumLen (pairsL code N m) = 2 * (pairsL code N m).length := by
  induction m with
  | zero => simp [pairsL, sumLen]
  | succ m ih =>
    rw [pairsL_next, List.length_append, sumLen_app, pairsA_sum]
    have := pairsA_len code m N
    rw [Nat.succ_mul]
    omega
end Go.Proofs.Ytnjojnnapdhijaa
