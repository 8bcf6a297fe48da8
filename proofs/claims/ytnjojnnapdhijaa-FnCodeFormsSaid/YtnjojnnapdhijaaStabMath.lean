/-
  Plain theory of the stable sort: a row that rises to its place, where a search ends, a merge's cut. Conditions: none; nothing of the program is named here.
-/
import Derived.Test.YtnjojnnapdhijaaSwapM
namespace Go.Proofs.Ytnjojnnapdhijaa
open Go.RowKit
set_option linter.unusedVariables false

/-- Rising: s with its row a put to k, those between moved down by one. -/
structure Rise (s t : List Rw) (a b k : Nat) : Prop where
  re : Re a b s t
  low : ∀ q, a ≤ q → q < k → t[q]? = s[q + 1]?
  here : t[k]? = s[a]?
  high : ∀ q, k < q → t[q]? = s[q]?
theorem Rise.start {s : List Rw} {a b : Nat} : Rise s s a b a := ⟨Re.refl _ _ _, fun q h1 h2 => by omega, rfl, fun _ _ => rfl⟩
theorem Rise.step {s t : List Rw} {a b k : Nat} (h : Rise s t a b k) (ha : a ≤ k) (hk : k + 1 < b) (hb : b ≤ s.length) : Rise s (swp t k (k + 1)) a b (k + 1) := by
  have hl := h.re.1
  have h1 : k < t.length := by omega
  have h2 : k + 1 < t.length := by omega
  have hsw := swp_at h1 h2
  refine ⟨h.re.trans (swp_re h1 h2 ha (by omega) (by omega) (by omega)), fun q q1 q2 => ?_, ?_, fun q hq => ?_⟩
  · rw [hsw, if_neg (by omega)]
    by_cases e : q = k
    · subst e
      rw [if_pos rfl]
      exact h.high (q + 1) (by omega)
    · rw [if_neg e]
      exact h.low q q1 (by omega)
  · rw [hsw, if_pos rfl]
    exact h.here
  · rw [hsw, if_neg (by omega), if_neg (by omega)]
    exact h.high q (by omega)
theorem Rise.stop {s t : List Rw} {a b k : Nat} (h : Rise s t a b k) (ha : a ≤ k) (hk : k < b) (hb : b ≤ s.length) (hs : So (a + 1) b s) (hlo : ∀ q x y, a < q → q ≤ k → s[q]? = some x → s[a]? = some y → cmpR x y < 0) (hhi : ∀ q x y, k < q → q < b → s[q]? = some x → s[a]? = some y → cmpR y x ≤ 0) : So a b t := by
  have hxa : s[a]? = some s[a] := List.getElem?_eq_getElem (by omega)
  have cls : ∀ q z, a ≤ q → q < b → t[q]? = some z → (q < k ∧ s[q + 1]? = some z) ∨ (q = k ∧ z = s[a]) ∨ (k < q ∧ s[q]? = some z) := fun q z q1 q2 e => by
    by_cases g1 : q < k
    · exact .inl ⟨g1, by rw [← h.low q q1 g1]; exact e⟩
    · by_cases g2 : q = k
      · subst g2
        rw [h.here, hxa] at e
        injection e with e
        exact .inr (.inl ⟨rfl, e.symm⟩)
      · exact .inr (.inr ⟨by omega, by rw [← h.high q (by omega)]; exact e⟩)
  intro p q x y p1 p2 p3 e1 e2
  rcases cls p x p1 (by omega) e1 with ⟨c1, d1⟩ | ⟨c1, d1⟩ | ⟨c1, d1⟩ <;> rcases cls q y (by omega) p3 e2 with ⟨c2, d2⟩ | ⟨c2, d2⟩ | ⟨c2, d2⟩
  · exact hs (p + 1) (q + 1) x y (by omega) (by omega) (by omega) d1 d2
  · rw [d2]
    have := hlo (p + 1) x s[a] (by omega) (by omega) d1 hxa
    omega
  · by_cases g : p + 1 = q
    · subst g
      rw [d1] at d2
      injection d2 with d2
      rw [d2, cmpR_self]
      exact Int.le_refl _
    · exact hs (p + 1) q x y (by omega) (by omega) (by omega) d1 d2
  · omega
  · omega
  · rw [d1]
    exact hhi q y s[a] c2 p3 d2 hxa
  · omega
  · omega
  · exact hs p q x y (by omega) p2 p3 d1 d2
/-- a search for the first row not below row a -/
structure SrchA (s : List Rw) (a m b i j : Nat) : Prop where
  lo : ∀ q x y, m ≤ q → q < i → s[q]? = some x → s[a]? = some y → cmpR x y < 0
  hi : ∀ q x y, j ≤ q → q < b → s[q]? = some x → s[a]? = some y → cmpR y x ≤ 0
theorem SrchA.start {s : List Rw} {a m b : Nat} : SrchA s a m b m b := ⟨fun q x y h1 h2 => by omega, fun q x y h1 h2 => by omega⟩
theorem SrchA.up {s : List Rw} {a m b i j h : Nat} (hh : SrchA s a m b i j) (hs : So m b s) (h1 : m ≤ h) (h2 : h < b) {x y : Rw} (hx : s[h]? = some x) (hy : s[a]? = some y) (hc : cmpR x y < 0) : SrchA s a m b (h + 1) j := by
  refine ⟨fun q u v q1 q2 e1 e2 => ?_, hh.hi⟩
  rw [hy] at e2
  injection e2 with e2
  subst e2
  by_cases g : q = h
  · subst g
    rw [hx] at e1
    injection e1 with e1
    rw [← e1]
    exact hc
  · have h3 := hs q h u x q1 (by omega) h2 e1 hx
    refine Int.lt_of_not_ge fun hn => ?_
    have h4 : cmpR y u ≤ 0 := by have := cmpR_neg u y; omega
    have h5 := cmpR_trans h4 h3
    have := cmpR_neg x y
    omega
theorem SrchA.down {s : List Rw} {a m b i j h : Nat} (hh : SrchA s a m b i j) (hs : So m b s) (h1 : m ≤ h) (h2 : h < b) {x y : Rw} (hx : s[h]? = some x) (hy : s[a]? = some y) (hc : ¬ cmpR x y < 0) : SrchA s a m b i h := by
  refine ⟨hh.lo, fun q u v q1 q2 e1 e2 => ?_⟩
  rw [hy] at e2
  injection e2 with e2
  subst e2
  have h0 : cmpR y x ≤ 0 := by have := cmpR_neg x y; omega
  by_cases g : q = h
  · subst g
    rw [hx] at e1
    injection e1 with e1
    rw [← e1]
    exact h0
  · exact cmpR_trans h0 (hs h q x u h1 (by omega) q2 hx e1)
/-- a search for the first row above row m -/
structure SrchM (s : List Rw) (a m i j : Nat) : Prop where
  lo : ∀ q x y, a ≤ q → q < i → s[q]? = some x → s[m]? = some y → cmpR x y ≤ 0
  hi : ∀ q x y, j ≤ q → q < m → s[q]? = some x → s[m]? = some y → cmpR y x < 0
theorem SrchM.start {s : List Rw} {a m : Nat} : SrchM s a m a m := ⟨fun q x y h1 h2 => by omega, fun q x y h1 h2 => by omega⟩
theorem SrchM.up {s : List Rw} {a m i j h : Nat} (hh : SrchM s a m i j) (hs : So a m s) (h1 : a ≤ h) (h2 : h < m) {x y : Rw} (hx : s[h]? = some x) (hy : s[m]? = some y) (hc : ¬ cmpR y x < 0) : SrchM s a m (h + 1) j := by
  refine ⟨fun q u v q1 q2 e1 e2 => ?_, hh.hi⟩
  rw [hy] at e2
  injection e2 with e2
  subst e2
  have h0 : cmpR x y ≤ 0 := by have := cmpR_neg x y; omega
  by_cases g : q = h
  · subst g
    rw [hx] at e1
    injection e1 with e1
    rw [← e1]
    exact h0
  · exact cmpR_trans (hs q h u x q1 (by omega) h2 e1 hx) h0
theorem SrchM.down {s : List Rw} {a m i j h : Nat} (hh : SrchM s a m i j) (hs : So a m s) (h1 : a ≤ h) (h2 : h < m) {x y : Rw} (hx : s[h]? = some x) (hy : s[m]? = some y) (hc : cmpR y x < 0) : SrchM s a m i h := by
  refine ⟨hh.lo, fun q u v q1 q2 e1 e2 => ?_⟩
  rw [hy] at e2
  injection e2 with e2
  subst e2
  by_cases g : q = h
  · subst g
    rw [hx] at e1
    injection e1 with e1
    rw [← e1]
    exact hc
  · have h3 := hs h q x u h1 (by omega) q2 hx e1
    refine Int.lt_of_not_ge fun hn => ?_
    have h4 : cmpR u y ≤ 0 := by have := cmpR_neg y u; omega
    have h5 := cmpR_trans h3 h4
    have := cmpR_neg y x
    omega
/-- the search for the cut of a merge: between st and r, from st0 and r0 on; its partner is n less it -/
structure Cut (s : List Rw) (n st0 r0 st r : Nat) : Prop where
  b1 : st0 ≤ st
  b2 : st ≤ r
  b3 : r ≤ r0
  lo : st0 < st → ∀ x y, s[st - 1]? = some x → s[n - st]? = some y → cmpR x y ≤ 0
  hi : r < r0 → ∀ x y, s[r]? = some x → s[n - r - 1]? = some y → cmpR y x ≤ 0
theorem Cut.start {s : List Rw} {n st0 r0 : Nat} (h : st0 ≤ r0) : Cut s n st0 r0 st0 r0 := ⟨Nat.le_refl _, h, Nat.le_refl _, fun h => by omega, fun h => by omega⟩
theorem Cut.up {s : List Rw} {n st0 r0 st r c : Nat} (h : Cut s n st0 r0 st r) (h1 : st ≤ c) (h2 : c < r) (hn : r0 ≤ n) {x y : Rw} (hx : s[n - 1 - c]? = some x) (hy : s[c]? = some y) (hc : ¬ cmpR x y < 0) : Cut s n st0 r0 (c + 1) r := by
  have q1 := h.b1
  have q3 := h.b3
  refine ⟨by omega, h2, h.b3, fun _ u v e1 e2 => ?_, h.hi⟩
  rw [show c + 1 - 1 = c by omega, hy] at e1
  rw [show n - (c + 1) = n - 1 - c by omega, hx] at e2
  injection e1 with e1
  injection e2 with e2
  rw [← e1, ← e2]
  have := cmpR_neg x y
  omega
theorem Cut.down {s : List Rw} {n st0 r0 st r c : Nat} (h : Cut s n st0 r0 st r) (h1 : st ≤ c) (h2 : c < r) (hn : r0 ≤ n) {x y : Rw} (hx : s[n - 1 - c]? = some x) (hy : s[c]? = some y) (hc : cmpR x y < 0) : Cut s n st0 r0 st c := by
  have q3 := h.b3
  refine ⟨h.b1, h1, by omega, h.lo, fun _ u v e1 e2 => ?_⟩
  rw [hy] at e1
  rw [show n - c - 1 = n - 1 - c by omega, hx] at e2
  injection e1 with e1
  injection e2 with e2
  rw [← e1, ← e2]
  omega
/-- where the search ends is a cut -/
theorem Cut.done {s : List Rw} {a m b mid st0 r0 st : Nat} (h : Cut s (mid + m) st0 r0 st st) (ham : a < m) (hmb : m < b) (hmid : mid = (a + b) / 2) (h0 : (mid < m ∧ st0 = mid + m - b ∧ r0 = mid) ∨ (m ≤ mid ∧ st0 = a ∧ r0 = m)) :
    a ≤ st ∧ st ≤ m ∧ m ≤ mid + m - st ∧ mid + m - st ≤ b ∧ CutAt s a m b st (mid + m - st) := by
  have q1 := h.b1
  have q3 := h.b3
  refine ⟨by omega, by omega, by omega, by omega, ⟨fun x y g1 e1 g2 e2 => ?_, fun x y g1 e1 g2 e2 => ?_⟩⟩
  · exact h.lo (by omega) x y e1 e2
  · exact h.hi (by omega) x y e1 (by rw [show mid + m - st - 1 = mid + m - st - 1 by rfl]; exact e2)
theorem rot_none {s : List Rw} {a m b : Nat} (h : a = m ∨ m = b) : RotE s s a m b :=
  ⟨Re.refl _ _ _, fun k h1 h2 => by congr 1; omega, fun k h1 h2 => by congr 1; omega⟩
end Go.Proofs.Ytnjojnnapdhijaa
