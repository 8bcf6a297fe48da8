/-
  Plain law of codes of panels: over and under alternate along a curve, each crossing is passed once over and once under, and so the code of a panel has no fault. Conditions: a panel's sides and breaks; nothing of the program is named here.
  Contracts of the laws' helpers over polynomials, and of the two tests for equality. Conditions: the lengths are far below the machine's.
-/
import Derived.Test.YtnjojnnapdhijaaCodePan
import Derived.Test.YtnjojnnapdhijaaPntMathM
import Derived.Test.YtnjojnnapdhijaaPolyOk
namespace Go.Proofs.Ytnjojnnapdhijaa
open Go.RowKit
set_option linter.unusedVariables false

section
variable {wd ht : Int} {xs : List Int}
theorem slope_next (x d : Int) (hd : d = 1 ∨ d = -1) : slopeI (x + d) = -slopeI x := by
  unfold slopeI
  rcases hd with rfl | rfl
  · by_cases h : x % 2 = 1
    · rw [if_pos h, if_neg (by omega)]
    · rw [if_neg h, if_pos (by omega)]; rfl
  · by_cases h : x % 2 = 1
    · rw [if_pos h, if_neg (by omega)]
    · rw [if_neg h, if_pos (by omega)]; rfl
theorem brk_getD (hall : xs.all breakB = true) (n : Nat) : xs.getD n 0 = 0 ∨ xs.getD n 0 = 1 ∨ xs.getD n 0 = 2 := by
  rw [List.getD_eq_getElem?_getD]
  cases h : xs[n]? with
  | none => exact .inl rfl
  | some v =>
    have := List.all_eq_true.1 hall v (List.mem_of_getElem? h)
    unfold breakB at this
    have := inB_true.1 this
    rw [Option.getD_some]
    omega
/-- A walker turns over into under just where it goes through a crossing. -/
theorem over_step (hall : xs.all breakB = true) {a : Wk} (h : OkW wd ht a) : overB (stepW wd ht xs a) = (overB a != crossB wd ht xs a.nx a.ny) := by
  have h' := okW_step (xs := xs) h
  have hn : (stepW wd ht xs a).nx = a.nx + (stepW wd ht xs a).dx := rfl
  have hsl := slope_next a.nx (stepW wd ht xs a).dx h'.1
  have hpm := slope_pm a.nx
  obtain ⟨f1, f2, f3⟩ := flip_facts (xs := xs) h.2.2.2
  have ha := h.1
  have hb := h.2.1
  unfold overB
  rw [hn, hsl]
  by_cases hc : crossB wd ht xs a.nx a.ny = true
  · rw [step_cross hc, hc]
    dsimp only
    generalize slopeI a.nx = s at *
    rcases ha with ha | ha <;> rcases hb with hb | hb <;> rcases hpm with hp | hp <;> rw [ha, hb, hp] <;> rfl
  · have hc' : crossB wd ht xs a.nx a.ny = false := by simpa using hc
    rw [hc']
    have hflip : FlipX wd ht xs a.nx a.ny ∨ FlipY wd ht xs a.nx a.ny := by
      rw [cross_iff] at hc
      unfold FlipX FlipY
      by_cases he : Edge wd ht a.nx a.ny
      · unfold Edge at he
        rcases he with he | he | he | he
        · exact .inl (.inl he)
        · exact .inl (.inr (.inl he))
        · exact .inr (.inl he)
        · exact .inr (.inr (.inl he))
      · have hk : kindI wd ht xs a.nx a.ny = 0 ∨ kindI wd ht xs a.nx a.ny = 1 ∨ kindI wd ht xs a.nx a.ny = 2 := by
          unfold kindI
          rw [if_neg he]
          exact brk_getD hall _
        rcases hk with hk | hk | hk
        · exact absurd ⟨he, hk⟩ hc
        · exact .inl (.inr (.inr hk))
        · exact .inr (.inr (.inr hk))
    have e1 : (stepW wd ht xs a).dx * (stepW wd ht xs a).dy = -(a.dx * a.dy) := by
      unfold stepW
      dsimp only
      rcases hflip with hf | hf
      · rw [if_pos hf, if_neg (fun h => f3 ⟨hf, h⟩), Int.neg_mul]
      · rw [if_neg (fun h => f3 ⟨h, hf⟩), if_pos hf, Int.mul_neg]
    rw [e1]
    generalize slopeI a.nx = s at *
    rcases ha with ha | ha <;> rcases hb with hb | hb <;> rcases hpm with hp | hp <;> rw [ha, hb, hp] <;> rfl
/-- Over and under alternate along a curve. -/
theorem pass_alt (hall : xs.all breakB = true) {a : Wk} (h : OkW wd ht a) : ∀ m, m ≤ perW wd ht xs a →
    overB (itW wd ht xs m a) = (overB a != decide ((psL wd ht xs ((orbW wd ht xs a).take m)).length % 2 = 1)) ∧
    ∀ (k : Nat) (p : Int × Bool), (psL wd ht xs ((orbW wd ht xs a).take m))[k]? = some p → p.2 = (overB a != decide (k % 2 = 1))
  | 0, _ => ⟨by show overB a = (overB a != decide ((psL wd ht xs []).length % 2 = 1)); simp [psL], fun k p hp => by simp [psL] at hp⟩
  | m + 1, hm => by
    obtain ⟨ih1, ih2⟩ := pass_alt hall h m (by omega)
    have hx := orbW_at (wd := wd) (ht := ht) (xs := xs) a (i := m) (by omega)
    have hst : itW wd ht xs (m + 1) a = stepW wd ht xs (itW wd ht xs m a) := rfl
    have hos := over_step hall (okW_it (xs := xs) h m)
    rw [hst, hos, psL_next hx]
    generalize hP : psL wd ht xs ((orbW wd ht xs a).take m) = P at *
    cases hc : crossB wd ht xs (itW wd ht xs m a).nx (itW wd ht xs m a).ny
    · rw [psOf_no hc, List.append_nil]
      exact ⟨by rw [ih1]; simp, ih2⟩
    · rw [psOf_yes hc]
      refine ⟨?_, fun k p hp => ?_⟩
      · rw [ih1, List.length_append, List.length_singleton]
        rcases Nat.mod_two_eq_zero_or_one P.length with h0 | h0
        · rw [decide_eq_false (show ¬ P.length % 2 = 1 by omega), decide_eq_true (show (P.length + 1) % 2 = 1 by omega)]
          cases overB a <;> rfl
        · rw [decide_eq_true (show P.length % 2 = 1 by omega), decide_eq_false (show ¬ (P.length + 1) % 2 = 1 by omega)]
          cases overB a <;> rfl
      · rw [List.getElem?_append] at hp
        split at hp
        · exact ih2 k p hp
        · rename_i hk
          by_cases hkl : k = P.length
          · subst hkl
            simp at hp
            rw [← hp]
            exact ih1
          · rw [List.getElem?_eq_none (by simp; omega)] at hp
            cases hp
/-- the element that a walker writes -/
def valO (wd ht : Int) (xs : List Int) (a : Wk) : Option Int := if crossB wd ht xs a.nx a.ny = true then some (psN ((idxW wd xs a : Int), overB a)) else none
theorem curN_val (c : List Wk) : curN wd ht xs c = c.filterMap (valO wd ht xs) := by
  unfold curN psL
  induction c with
  | nil => rfl
  | cons x t ih =>
    rw [List.flatMap_cons, List.map_append, ih]
    cases hc : crossB wd ht xs x.nx x.ny
    · rw [psOf_no hc, List.filterMap_cons_none (by unfold valO; rw [hc]; rfl)]
      rfl
    · rw [psOf_yes hc, List.filterMap_cons_some (b := psN ((idxW wd xs x : Int), overB x)) (by unfold valO; rw [if_pos hc])]
      rfl
theorem codN_flat : (codN wd ht xs).flatten = (curL wd ht xs).flatten.filterMap (valO wd ht xs) := by
  unfold codN
  induction curL wd ht xs with
  | nil => rfl
  | cons c t ih => rw [List.map_cons, List.flatten_cons, List.flatten_cons, List.filterMap_append, ih, curN_val]
theorem psN_inj {i j : Nat} {b c : Bool} (h : psN ((i : Int), b) = psN ((j : Int), c)) : i = j ∧ b = c := by
  unfold psN at h
  cases b <;> cases c <;> simp at h ⊢ <;> omega
theorem pass_inj (hs : Sz wd ht) (hl : (xs.length : Int) = innerN wd ht) {i j : Nat} {c d : List Wk} {a b : Wk} (hc : (curL wd ht xs)[i]? = some c) (ha : a ∈ c) (hd : (curL wd ht xs)[j]? = some d) (hb : b ∈ d)
    (xa : crossB wd ht xs a.nx a.ny = true) (xb : crossB wd ht xs b.nx b.ny = true) (hi : idxW wd xs a = idxW wd xs b) (ho : overB a = overB b) : a = b := by
  have oa := cur_ok hs hc ha
  have ob := cur_ok hs hd hb
  obtain ⟨p, p1, p2, p3⟩ := num_cross hs hl oa.2.2.2 xa
  obtain ⟨q, q1, q2, q3⟩ := num_cross hs hl ob.2.2.2 xb
  have hpq : p = q := by
    have hu : (zTo xs p).length = (zTo xs q).length := by
      unfold idxW at hi
      rw [p1, q1] at hi
      exact hi
    by_cases hlt : p < q
    · have := zTo_lt p3 hlt; omega
    · by_cases hgt : q < p
      · have := zTo_lt q3 hgt; omega
      · omega
  subst hpq
  have e1 := pnt_num hs oa.2.2.2 (cross_iff.1 xa).1 p1
  have e2 := pnt_num hs ob.2.2.2 (cross_iff.1 xb).1 q1
  rw [e1] at e2
  injection e2 with ex ey
  have hT := trInv_all (xs := xs) hs
  have hst := step_cross (wd := wd) (ht := ht) (xs := xs) xa
  have hm : a.dx * a.dy = b.dx * b.dy := by
    unfold overB at ho
    rw [← ex] at ho
    have hpm := slope_pm a.nx
    have a1 := oa.1
    have a2 := oa.2.1
    have b1 := ob.1
    have b2 := ob.2.1
    generalize slopeI a.nx = s at *
    rcases a1 with a1 | a1 <;> rcases a2 with a2 | a2 <;> rcases b1 with b1 | b1 <;> rcases b2 with b2 | b2 <;> rcases hpm with hp | hp <;> rw [a1, a2, b1, b2, hp] at ho <;> rw [a1, a2, b1, b2] <;> simp at ho ⊢
  have hcase : (a.dx = b.dx ∧ a.dy = b.dy) ∨ (b.dx = -a.dx ∧ b.dy = -a.dy) := by
    have a1 := oa.1
    have a2 := oa.2.1
    have b1 := ob.1
    have b2 := ob.2.1
    rcases a1 with a1 | a1 <;> rcases a2 with a2 | a2 <;> rcases b1 with b1 | b1 <;> rcases b2 with b2 | b2 <;> rw [a1, a2, b1, b2] at hm ⊢ <;> simp at hm ⊢
  unfold Wk.nx at ex
  unfold Wk.ny at ey
  rcases hcase with ⟨h1, h2⟩ | ⟨h1, h2⟩
  · obtain ⟨ax, ay, adx, ady⟩ := a
    obtain ⟨bx, by_, bdx, bdy⟩ := b
    simp only at ex ey h1 h2
    subst h1 h2
    rw [show ax = bx by omega, show ay = by_ by omega]
  · exfalso
    have hback : b = backW (stepW wd ht xs a) := by
      rw [hst]
      obtain ⟨ax, ay, adx, ady⟩ := a
      obtain ⟨bx, by_, bdx, bdy⟩ := b
      simp only [backW, Wk.nx, Wk.ny] at ex ey h1 h2 ⊢
      subst h1 h2
      rw [show bx = ax + adx + adx by omega, show by_ = ay + ady + ady by omega]
    obtain ⟨k, hk, hck, _⟩ := hT.start i c hc
    have hw := (walkK_ok hs hk).1
    have hsa : stepW wd ht xs a ∈ c := by
      rw [hck] at ha ⊢
      exact orbW_next hs hw ha
    have o1 := hT.mem i c hc _ hsa
    have o2 := hT.mem j d hd b hb
    have hseg : segN ht b = segN ht (stepW wd ht xs a) := by
      unfold segN
      rw [hback, seg_back (okW_step oa)]
    rw [hseg, o1] at o2
    injection o2 with o2
    have hij : i = j := by omega
    subst hij
    rw [hc] at hd
    injection hd with hd
    subst hd
    rw [hck] at ha hb
    obtain ⟨m, hm1, hm2⟩ := orbW_mem.1 ha
    obtain ⟨n, hn1, hn2⟩ := orbW_mem.1 hb
    have h3 : itW wd ht xs n (walkK ht k) = backW (itW wd ht xs (m + 1) (walkK ht k)) := by
      rw [hn2, hback, ← hm2]
      rfl
    by_cases hmn : m + 1 ≤ n
    · refine no_back (xs := xs) hw (n - (m + 1)) (m + 1) ?_
      rw [show m + 1 + (n - (m + 1)) = n by omega]
      exact h3
    · refine no_back (xs := xs) hw (m + 1 - n) n ?_
      rw [show n + (m + 1 - n) = m + 1 by omega, h3, back_back]
theorem curL_nodup (hs : Sz wd ht) : (curL wd ht xs).flatten.Nodup := by
  have hT := trInv_all (xs := xs) hs
  unfold List.Nodup
  rw [List.pairwise_flatten]
  refine ⟨fun c hc => ?_, ?_⟩
  · obtain ⟨i, hi⟩ := List.mem_iff_getElem?.1 hc
    obtain ⟨k, hk, hck, _⟩ := hT.start i c hi
    have hw := (walkK_ok hs hk).1
    have hps := per_spec (xs := xs) hs hw
    rw [List.pairwise_iff_getElem]
    intro m n hm hn hmn e
    have hl : c.length = perW wd ht xs (walkK ht k) := by rw [hck]; exact orbW_len _
    have e1 : c[m]? = some (itW wd ht xs m (walkK ht k)) := by rw [hck]; exact orbW_at _ (by omega)
    have e2 : c[n]? = some (itW wd ht xs n (walkK ht k)) := by rw [hck]; exact orbW_at _ (by omega)
    rw [List.getElem?_eq_getElem hm] at e1
    rw [List.getElem?_eq_getElem hn] at e2
    injection e1 with e1
    injection e2 with e2
    exact seg_distinct hs hw hps.2.2.2 hmn (by omega) (by rw [← e1, ← e2, e])
  · rw [List.pairwise_iff_getElem]
    intro i j hi hj hij x hx y hy e
    subst e
    have h1 := hT.mem i _ (List.getElem?_eq_getElem hi) x hx
    have h2 := hT.mem j _ (List.getElem?_eq_getElem hj) x hy
    rw [h1] at h2
    injection h2 with h2
    omega
theorem flat_row {c : List Wk} {a : Wk} (h : a ∈ (curL wd ht xs).flatten) : ∃ (i : Nat) (c : List Wk), (curL wd ht xs)[i]? = some c ∧ a ∈ c := by
  obtain ⟨c, hc, ha⟩ := List.mem_flatten.1 h
  obtain ⟨i, hi⟩ := List.mem_iff_getElem?.1 hc
  exact ⟨i, c, hi, ha⟩
/-- The code of a panel of few curves is a code. -/
theorem codN_valid (hs : Sz wd ht) (hl : (xs.length : Int) = innerN wd ht) (hc : (curL wd ht xs).length ≤ 40) : validC (codN wd ht xs) = true := by
  have hib : innerN wd ht ≤ 112 := by
    obtain ⟨s1, s2, s3, s4⟩ := hs
    unfold innerN
    have := eight s1 s2
    rcases this with rfl | rfl | rfl | rfl | rfl | rfl | rfl | rfl <;> omega
  have hz := zTo_len xs xs.length
  have hgood : Good (zTo xs xs.length).length (codN wd ht xs).flatten := by
    rw [codN_flat]
    constructor
    · unfold List.Nodup
      rw [List.pairwise_filterMap]
      have hnd := curL_nodup (xs := xs) hs
      unfold List.Nodup at hnd
      refine List.Pairwise.imp_of_mem ?_ hnd
      intro a b ha hb hab x hx y hy e
      subst e
      unfold valO at hx hy
      split at hx
      · rename_i xa
        split at hy
        · rename_i xb
          injection hx with hx
          injection hy with hy
          obtain ⟨e1, e2⟩ := psN_inj (hx.trans hy.symm)
          obtain ⟨i, c, hi, ha2⟩ := flat_row (c := []) ha
          obtain ⟨j, d, hj, hb2⟩ := flat_row (c := []) hb
          exact hab (pass_inj hs hl hi ha2 hj hb2 xa xb e1 e2)
        · cases hy
      · cases hx
    · intro x hx
      obtain ⟨a, ha, hv⟩ := List.mem_filterMap.1 hx
      obtain ⟨i, c, hi, ha2⟩ := flat_row (c := []) ha
      unfold valO at hv
      split at hv
      · rename_i xa
        injection hv with hv
        have := idx_lt hs hl (cur_ok hs hi ha2) xa
        rw [← hv]
        unfold psN
        split <;> simp <;> omega
      · cases hv
  have hall : ∀ x ∈ bothL (zTo xs xs.length).length, x ∈ (codN wd ht xs).flatten := fun x hx => by
    obtain ⟨x0, x1, x2⟩ := bothL_mem.1 hx
    have way : ∀ (b : Bool) (k : Nat), k < (zTo xs xs.length).length → psN ((k : Int), b) ∈ (codN wd ht xs).flatten := fun b k hk => by
      obtain ⟨i, c, a, hi, ha, xa, ho, hk2⟩ := passed (b := b) hs hl hk
      rw [codN_flat]
      refine List.mem_filterMap.2 ⟨a, List.mem_flatten.2 ⟨c, List.mem_of_getElem? hi, ha⟩, ?_⟩
      unfold valO
      rw [if_pos xa, hk2, ho]
    by_cases hp : 0 < x
    · have := way true (x - 1).toNat (by omega)
      have e : psN ((((x - 1).toNat : Nat) : Int), true) = x := by unfold psN; rw [if_pos rfl]; dsimp only; omega
      rw [e] at this
      exact this
    · have := way false (-x - 1).toNat (by omega)
      have e : psN ((((-x - 1).toNat : Nat) : Int), false) = x := by unfold psN; rw [if_neg (by simp)]; dsimp only; omega
      rw [e] at this
      exact this
  have h1 := len_le_of_sub hgood.1 (m := bothL (zTo xs xs.length).length) fun x hx => bothL_mem.2 (hgood.2 x hx)
  have h2 := len_le_of_sub (bothL_nodup _) hall
  rw [bothL_length, flatten_len] at h1 h2
  rw [validC_good (N := (zTo xs xs.length).length) (by rw [codN_len]; exact hc) (by omega) (by omega)]
  exact decide_eq_true hgood
theorem codN_noOdd (hs : Sz wd ht) (hall : xs.all breakB = true) {i : Nat} {r : List Int} (hi : (codN wd ht xs)[i]? = some r) (k : Nat) : oddK r k = false := by
  have hT := trInv_all (xs := xs) hs
  unfold codN at hi
  rw [List.getElem?_map] at hi
  cases hc : (curL wd ht xs)[i]? with
  | none => rw [hc] at hi; cases hi
  | some c =>
    rw [hc] at hi
    injection hi with hi
    obtain ⟨q, hq, hcq, _⟩ := hT.start i c hc
    have hw := (walkK_ok hs hq).1
    have halt := (pass_alt hall hw _ (Nat.le_refl (perW wd ht xs (walkK ht q)))).2
    rw [List.take_of_length_le (by rw [orbW_len]; exact Nat.le_refl _), ← hcq] at halt
    refine oddK_no fun j hj => ?_
    unfold oddAt
    by_cases hkj : k < j
    · have hk : k < r.length := by omega
      have e1 : r[k]? = some r[k] := List.getElem?_eq_getElem hk
      have e2 : r[j]? = some r[j] := List.getElem?_eq_getElem hj
      have f1 : (curN wd ht xs c)[k]? = some r[k] := by rw [hi]; exact e1
      have f2 : (curN wd ht xs c)[j]? = some r[j] := by rw [hi]; exact e2
      unfold curN at f1 f2
      rw [List.getElem?_map] at f1 f2
      cases g1 : (psL wd ht xs c)[k]? with
      | none => rw [g1] at f1; cases f1
      | some p =>
        cases g2 : (psL wd ht xs c)[j]? with
        | none => rw [g2] at f2; cases f2
        | some p2 =>
          rw [g1] at f1
          rw [g2] at f2
          injection f1 with f1
          injection f2 with f2
          have h1 := halt k p g1
          have h2 := halt j p2 g2
          have p0 : ∀ p : Int × Bool, p ∈ psL wd ht xs c → 0 ≤ p.1 := fun p hp => by
            unfold psL at hp
            obtain ⟨x, _, hx⟩ := List.mem_flatMap.1 hp
            unfold psOf at hx
            split at hx
            · rw [List.mem_singleton] at hx
              rw [hx]
              exact Int.natCast_nonneg _
            · cases hx
          have n1 := p0 p (List.mem_of_getElem? g1)
          have n2 := p0 p2 (List.mem_of_getElem? g2)
          rw [getD_at e1, getD_at e2]
          by_cases hneg : r[j] = -r[k]
          · have hne : p.2 ≠ p2.2 := fun e => by
              rw [← f1, ← f2] at hneg
              unfold psN at hneg
              rw [e] at hneg
              split at hneg <;> omega
            have hpar : ¬ (j - k) % 2 = 0 := fun h0 => hne (by
              rw [h1, h2]
              have : (k % 2 = 1) = (j % 2 = 1) := by
                apply propext
                omega
              simp only [this])
            rw [decide_eq_false hpar]
            simp
          · have : (r[j] == -r[k]) = false := by simpa using hneg
            rw [this]
            simp
    · rw [decide_eq_false hkj]
      rfl
/-- The code of a panel of few curves has no fault. -/
theorem codN_fault (hs : Sz wd ht) (hl : (xs.length : Int) = innerN wd ht) (hall : xs.all breakB = true) (hc : (curL wd ht xs).length ≤ 40) : faultC (codN wd ht xs) = (0, 0, 0) := by
  have hv := codN_valid hs hl hc
  refine fault_none (by have := (valid_sum hv).1; omega) (valid_many hv) (valid_badP hv) (valid_absent hv) ?_
  rw [List.find?_eq_none]
  rintro ⟨x, a, b⟩ hq
  obtain ⟨i, k, r, rfl, rfl, hi, hk⟩ := posC_mem hq
  unfold oddP
  rw [oddX_eq (valid_apart' hv) hi hk, codN_noOdd hs hall hi]
  simp
end
end Go.Proofs.Ytnjojnnapdhijaa

namespace Go.Proofs.Ytnjojnnapdhijaa
open Go.RowKit
set_option linter.unusedVariables false

set_option maxHeartbeats 400000 in
theorem l00Same_any (A B : Option Addr) (c d : Nat) (xs ys : List Int) (w : World) (hA : RI w A xs) (hB : RI w B ys) (hn : xs.length ≤ 1048576) (hm : ys.length ≤ 1048576) :
    Calls Try.prog 83 #[.slice A xs.length c, .slice B ys.length d] w (RetQ w (.bool (decide (xs = ys)))) := by
  by_cases hl : xs.length = ys.length
  · have HL := hide hl
    have hnm : ((xs.length : Int) != (ys.length : Int)) = false := by simp [hl]
    clear hl
    go_enter Try.func83, Try.ntmps83
    go_wp2
    go_loopw [5] (fun i wr => ∃ (k : Nat), k ≤ xs.length ∧ i = .int .i64 k ∧ Hid (xs.take k = ys.take k) ∧ ∃ n, wr = w.drewN n)
      (fun i _ => xs.length - (intOf i).toNat)
    case atStart => exact ⟨0, Nat.zero_le _, rfl, hide (by simp), 0, rfl⟩
    case round =>
      obtain ⟨k, hk, rfl, ht, n, rfl⟩ := hrel
      by_cases hlt : k < xs.length
      · obtain ⟨b, off, x, rfl, hb, hx, hc⟩ := hA.at_ hlt
        obtain ⟨b', off', y, rfl, hb', hy, hc'⟩ := hB.at_ (k := k) (by have := HL.out; omega)
        have hlt' : (k : Int) < (ys.length : Int) := by have := HL.out; omega
        by_cases hxy : x = y
        · subst hxy
          have HT := hide (take_eq_next hx hy ht.out)
          have hne : (x != x) = false := by simp
          go_wp2_with fail
          go_quiet (fail)
          go_wp2
          go_roundw
          case rel => exact ⟨k + 1, by omega, by go_num, HT, _, rfl⟩
          case measure => simp [intOf]; omega
        · have HN := hide (ne_at hx hy hxy)
          have hne : (x != y) = true := by simpa using hxy
          go_wp2_with fail
          go_quiet (fail)
          go_wp2
          go_ret
          rw [HN.out]
          exact ⟨rfl, _, by rw [World.drewN_drewN]⟩
      · go_wp2
        go_ret
        have he : xs = ys := take_eq_all HL.out (by omega) ht.out
        rw [decide_eq_true he]
        exact ⟨rfl, _, rfl⟩
  · have HN := hide (ne_len hl)
    have hnm : ((xs.length : Int) != (ys.length : Int)) = true := by rw [bne_iff_ne]; omega
    go_enter Try.func83, Try.ntmps83
    go_wp2
    go_ret
    rw [HN.out]
    exact ⟨rfl, 0, rfl⟩
/-- A function that hands back a polynomial whose coefficients lie in memory of its own. -/
def RetP (w : World) (low : Int) (xs : List Int) (e : Ending) (w' : World) : Prop :=
  ∃ A c, e = .returned (.agg #[.int .i64 low, .slice A xs.length c]) ∧ OwnI w' w.heap.size A c xs ∧ Below w.heap.size w w'

end Go.Proofs.Ytnjojnnapdhijaa
