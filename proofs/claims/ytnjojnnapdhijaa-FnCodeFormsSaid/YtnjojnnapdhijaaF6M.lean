/-
  Plain lemmas: a valid code without some crossings is valid. Conditions: none; nothing of the program is named here.
  Plain law of forms of codes: renaming is done once, and the least form does not depend on where a curve begins nor on its way. Conditions: none; nothing of the program is named here.
  Contracts of the laws' helpers over polynomials, and of the two tests for equality. Conditions: the lengths are far below the machine's.
  Contracts of the laws' small helpers: long arguments, equal lists; codes that are the same, and how many crossings. Conditions: none beyond the lengths.
-/
import Derived.Test.YtnjojnnapdhijaaMoveMathM
import Derived.Test.YtnjojnnapdhijaaLeastSM
import Derived.Test.YtnjojnnapdhijaaPolyOk
import Derived.Test.YtnjojnnapdhijaaDrawDM
namespace Go.Proofs.Ytnjojnnapdhijaa
open Go.RowKit
set_option linter.unusedVariables false

theorem numsW_range {g : Nat → Bool} : ∀ {n : Nat} {c v : Int}, (numsW g n).lookup c = some v → 0 ≤ c ∧ c < (n : Int)
  | 0, c, v, h => by cases h
  | n + 1, c, v, h => by
    unfold numsW at h
    split at h
    · have := numsW_range h
      omega
    · rw [lookup_snoc2] at h
      cases hc : (numsW g n).lookup c with
      | some u =>
        have := numsW_range hc
        omega
      | none =>
        rw [hc] at h
        simp at h
        omega
theorem numsW_inj {g : Nat → Bool} : ∀ {n : Nat} {c d v : Int}, (numsW g n).lookup c = some v → (numsW g n).lookup d = some v → c = d
  | 0, c, d, v, h, _ => by cases h
  | n + 1, c, d, v, h, h' => by
    unfold numsW at h h'
    split at h
    · rename_i hg
      rw [if_pos hg] at h'
      exact numsW_inj h h'
    · rename_i hg
      rw [if_neg hg] at h'
      rw [lookup_snoc2] at h h'
      have hok := numsW_ok g n
      cases hc : (numsW g n).lookup c with
      | some u =>
        rw [hc] at h
        injection h with h
        subst h
        have h1 := hok c u hc
        cases hd : (numsW g n).lookup d with
        | some t =>
          rw [hd] at h'
          injection h' with h'
          subst h'
          exact numsW_inj hc hd
        | none =>
          rw [hd] at h'
          simp at h'
          omega
      | none =>
        rw [hc] at h
        simp at h
        cases hd : (numsW g n).lookup d with
        | some t =>
          rw [hd] at h'
          injection h' with h'
          subst h'
          have h1 := hok d t hd
          omega
        | none =>
          rw [hd] at h'
          simp at h'
          omega
theorem numsW_sur {g : Nat → Bool} : ∀ {n : Nat} {v : Int}, 0 ≤ v → v < ((numsW g n).length : Int) → ∃ c, (numsW g n).lookup c = some v
  | 0, v, h1, h2 => by simp [numsW] at h2; omega
  | n + 1, v, h1, h2 => by
    unfold numsW at h2 ⊢
    split
    · rename_i hg
      rw [if_pos hg] at h2
      exact numsW_sur h1 h2
    · rename_i hg
      rw [if_neg hg, List.length_append, List.length_singleton] at h2
      by_cases hv : v < ((numsW g n).length : Int)
      · obtain ⟨c, hc⟩ := numsW_sur h1 hv
        exact ⟨c, by rw [lookup_snoc2, hc]; rfl⟩
      · refine ⟨(n : Int), ?_⟩
        rw [lookup_snoc2, numsW_fresh g n _ (Int.le_refl _), if_pos rfl]
        simp
        omega
theorem renC_flatten (f : Int → Option Int) (code : List (List Int)) : (renC f code).flatten = code.flatten.filterMap (renX f) := by
  unfold renC renRow
  induction code with
  | nil => rfl
  | cons x t ih => rw [List.map_cons, List.flatten_cons, List.flatten_cons, List.filterMap_append, ih]
theorem renX_some {f : Int → Option Int} {x b : Int} (h : renX f x = some b) : ∃ v, f (crI x) = some v ∧ b = if 0 < x then v + 1 else -v - 1 := by
  unfold renX at h
  cases hf : f (crI x) with
  | none => rw [hf] at h; cases h
  | some v =>
    rw [hf] at h
    injection h with h
    exact ⟨v, rfl, h.symm⟩
theorem crI_back {x y : Int} (h : crI x = crI y) (hs : 0 < x ↔ 0 < y) : x = y := by unfold crI at h; omega
theorem without_good {code : List (List Int)} {N : Nat} (g : Nat → Bool) (hN : sumLen code = 2 * N) (h : Good N code.flatten) : Good (numsW g N).length (renC (numF (numsW g N)) code).flatten := by
  have hok := numsW_ok g N
  rw [renC_flatten]
  constructor
  · unfold List.Nodup
    rw [List.pairwise_filterMap]
    refine List.Pairwise.imp ?_ h.1
    intro x y hxy a ha b hb e
    subst e
    obtain ⟨u, h1, h2⟩ := renX_some ha
    obtain ⟨v, h3, h4⟩ := renX_some hb
    have b1 := hok _ _ h1
    have b2 := hok _ _ h3
    have hs : (0 < x ↔ 0 < y) ∧ u = v := by
      rw [h2] at h4
      split at h4 <;> split at h4 <;> omega
    obtain ⟨hs, rfl⟩ := hs
    exact hxy (crI_back (numsW_inj h1 h3) hs)
  · intro b hb
    obtain ⟨x, hx, hb⟩ := List.mem_filterMap.1 hb
    obtain ⟨u, h1, h2⟩ := renX_some hb
    have b1 := hok _ _ h1
    split at h2 <;> omega
theorem without_len {code : List (List Int)} {N : Nat} (g : Nat → Bool) (hN : sumLen code = 2 * N) (h : Good N code.flatten) : sumLen (renC (numF (numsW g N)) code) = 2 * (numsW g N).length := by
  have hgood := without_good g hN h
  have hfl : code.flatten.length = 2 * N := by rw [flatten_len]; exact hN
  have h1 : (renC (numF (numsW g N)) code).flatten.length ≤ (bothL (numsW g N).length).length := len_le_of_sub hgood.1 fun x hx => bothL_mem.2 (hgood.2 x hx)
  have h2 : (bothL (numsW g N).length).length ≤ (renC (numF (numsW g N)) code).flatten.length := len_le_of_sub (bothL_nodup _) fun b hb => by
    obtain ⟨b0, b1, b2⟩ := bothL_mem.1 hb
    rw [renC_flatten, List.mem_filterMap]
    by_cases hp : 0 < b
    · obtain ⟨c, hc⟩ := numsW_sur (g := g) (n := N) (v := b - 1) (by omega) (by omega)
      have hr := numsW_range hc
      refine ⟨c + 1, h.all hfl (by omega) (by omega) (by omega), ?_⟩
      have e : crI (c + 1) = c := by unfold crI; omega
      rw [renX_up (v := b - 1) (by rw [e]; exact hc) (by omega)]
      congr 1
      omega
    · obtain ⟨c, hc⟩ := numsW_sur (g := g) (n := N) (v := -b - 1) (by omega) (by omega)
      have hr := numsW_range hc
      refine ⟨-c - 1, h.all hfl (by omega) (by omega) (by omega), ?_⟩
      have e : crI (-c - 1) = c := by unfold crI; omega
      rw [renX_down (v := -b - 1) (by rw [e]; exact hc) (by omega)]
      congr 1
      omega
  rw [bothL_length, flatten_len] at h1 h2
  omega
theorem without_valid {code : List (List Int)} (g : Nat → Bool) (h : validC code = true) : validC (withoutC g code) = true := by
  obtain ⟨N, h1, h2, h3, h4⟩ := validC_true h
  have e : sumLen code / 2 = N := by omega
  have hl := numsW_len g N
  unfold withoutC
  rw [e, validC_good (N := (numsW g N).length) (by rw [renC_length]; exact h1) (without_len g h2 h4) (by omega)]
  exact decide_eq_true (without_good g h2 h4)
theorem without_sum {code : List (List Int)} (g : Nat → Bool) (h : validC code = true) : sumLen (withoutC g code) = 2 * (numsW g (sumLen code / 2)).length := by
  obtain ⟨N, h1, h2, h3, h4⟩ := validC_true h
  have e : sumLen code / 2 = N := by omega
  unfold withoutC
  rw [e]
  exact without_len g h2 h4
theorem numsW_lt {g : Nat → Bool} {n k : Nat} (hk : k < n) (hg : g k = true) : (numsW g n).length < n := by
  induction n with
  | zero => omega
  | succ n ih =>
    unfold numsW
    split
    · have := numsW_len g n
      omega
    · rename_i hn
      have : k ≠ n := fun e => hn (e ▸ hg)
      have := ih (by omega)
      simp
      omega
theorem numsW_congr {g g' : Nat → Bool} : ∀ {n : Nat}, (∀ k, k < n → g k = g' k) → numsW g n = numsW g' n
  | 0, _ => rfl
  | n + 1, h => by
    unfold numsW
    rw [h n (by omega), numsW_congr fun k hk => h k (by omega)]
end Go.Proofs.Ytnjojnnapdhijaa

namespace Go.Proofs.Ytnjojnnapdhijaa
open Go.RowKit
set_option linter.unusedVariables false

/-- numbers given in the order of their places -/
def NumG (acc : List (Int × Int)) : Prop := (∀ (i : Nat) p, acc[i]? = some p → p.2 = (i : Int)) ∧ (acc.map Prod.fst).Nodup
theorem NumG.nil : NumG [] := ⟨fun i p h => by simp at h, List.nodup_nil⟩
theorem NumG.step {acc : List (Int × Int)} (h : NumG acc) (c : Int) : NumG (numStep acc c) := by
  unfold numStep
  split
  · rename_i hn
    refine ⟨fun i p hp => ?_, ?_⟩
    · rw [List.getElem?_append] at hp
      split at hp
      · exact h.1 i p hp
      · rename_i hi
        by_cases he : i = acc.length
        · subst he
          simp at hp
          rw [← hp]
        · rw [List.getElem?_eq_none (by simp; omega)] at hp
          cases hp
    · rw [List.map_append, List.nodup_append]
      refine ⟨h.2, by simp, fun a ha b hb => ?_⟩
      simp at hb
      intro e
      subst e
      rw [hb] at ha
      exact lookup_none.1 hn ha
  · exact h
theorem numsL_g (l : List Int) : NumG (numsL l) := by
  unfold numsL
  have key : ∀ (l : List Int) (acc : List (Int × Int)), NumG acc → NumG (l.foldl (fun acc x => numStep acc (crI x)) acc) := by
    intro l
    induction l with
    | nil => intro acc h; exact h
    | cons x t ih => intro acc h; exact ih _ (h.step _)
  exact key l [] NumG.nil
theorem NumG.at_ {acc : List (Int × Int)} (h : NumG acc) {c v : Int} (hl : acc.lookup c = some v) : ∃ i : Nat, v = (i : Int) ∧ i < acc.length ∧ acc[i]? = some (c, v) := by
  obtain ⟨i, hi⟩ := List.mem_iff_getElem?.1 (lookup_some_mem hl)
  exact ⟨i, h.1 i _ hi, (List.getElem?_eq_some_iff.1 hi).1, hi⟩
theorem NumG.inj {acc : List (Int × Int)} (h : NumG acc) {c d v : Int} (h1 : acc.lookup c = some v) (h2 : acc.lookup d = some v) : c = d := by
  obtain ⟨i, e1, _, g1⟩ := h.at_ h1
  obtain ⟨j, e2, _, g2⟩ := h.at_ h2
  have : i = j := by omega
  subst this
  rw [g1] at g2
  injection g2 with g2
  injection g2
theorem nums_has {l : List Int} {x : Int} (h : x ∈ l) : ∃ v, (numsL l).lookup (crI x) = some v := by
  obtain ⟨s, t, rfl⟩ := List.append_of_mem h
  have e : s ++ x :: t = (s ++ [x]) ++ t := by simp
  rw [e]
  obtain ⟨v, hv⟩ := numStep_has (numsL s) (crI x)
  exact ⟨v, numsL_keep (by rw [numsL_snoc]; exact hv)⟩
theorem filterMap_len {f : Int → Option Int} : ∀ {l : List Int}, (∀ x ∈ l, ∃ y, f x = some y) → (l.filterMap f).length = l.length
  | [], _ => rfl
  | x :: t, h => by
    obtain ⟨y, hy⟩ := h x List.mem_cons_self
    rw [List.filterMap_cons_some hy, List.length_cons, List.length_cons, filterMap_len fun z hz => h z (List.mem_cons_of_mem _ hz)]
theorem ren_some {l : List Int} {x : Int} (h : x ∈ l) : ∃ v, (numsL l).lookup (crI x) = some v ∧ 0 ≤ v ∧ v < ((numsL l).length : Int) ∧ renX (numF (numsL l)) x = some (if 0 < x then v + 1 else -v - 1) := by
  obtain ⟨v, hv⟩ := nums_has h
  have hb := numsL_ok l _ _ hv
  refine ⟨v, hv, hb.1, hb.2, ?_⟩
  unfold renX numF
  rw [hv]
  rfl
/-- A valid code has as many numbers as crossings. -/
theorem nums_len {code : List (List Int)} (hv : validC code = true) : (numsL code.flatten).length = sumLen code / 2 := by
  obtain ⟨N, g1, g2, g3, g4⟩ := validC_true hv
  have eN : sumLen code / 2 = N := by omega
  have hg := numsL_g code.flatten
  rw [eN]
  have hkeys : ∀ c, c ∈ (numsL code.flatten).map Prod.fst → ∃ x ∈ code.flatten, c = crI x := by
    have key : ∀ (l : List Int) (acc : List (Int × Int)) (c : Int), c ∈ (l.foldl (fun acc x => numStep acc (crI x)) acc).map Prod.fst → c ∈ acc.map Prod.fst ∨ ∃ x ∈ l, c = crI x := by
      intro l
      induction l with
      | nil => intro acc c h; exact .inl h
      | cons x t ih =>
        intro acc c h
        rcases ih _ c h with h | ⟨y, hy, e⟩
        · have h : c ∈ (numStep acc (crI x)).map Prod.fst := h
          unfold numStep at h
          split at h
          · rw [List.map_append] at h
            rcases List.mem_append.1 h with h | h
            · exact .inl h
            · simp at h
              exact .inr ⟨x, List.mem_cons_self, h⟩
          · exact .inl h
        · exact .inr ⟨y, List.mem_cons_of_mem _ hy, e⟩
    intro c h
    rcases key code.flatten [] c h with h | h
    · cases h
    · exact h
  have h1 := len_le_of_sub hg.2 (m := (List.range N).map fun j : Nat => (j : Int)) fun c hc => by
    obtain ⟨x, hx, rfl⟩ := hkeys c hc
    have := g4.2 x hx
    exact List.mem_map.2 ⟨(crI x).toNat, List.mem_range.2 (by unfold crI; omega), by unfold crI; omega⟩
  have h2 := len_le_of_sub (nodup_mapI (f := fun j : Nat => (j : Int)) (List.nodup_range (n := N)) (fun a b h => by omega)) (m := (numsL code.flatten).map Prod.fst) fun c hc => by
    obtain ⟨j, hj, rfl⟩ := List.mem_map.1 hc
    have hj := List.mem_range.1 hj
    have hm := valid_has hv (x := (j : Int) + 1) (by omega) (by omega) (by omega)
    obtain ⟨v, hv2⟩ := nums_has hm
    have e : crI ((j : Int) + 1) = (j : Int) := by unfold crI; omega
    rw [e] at hv2
    exact List.mem_map.2 ⟨_, lookup_some_mem hv2, rfl⟩
  simp only [List.length_map, List.length_range] at h1 h2
  omega
theorem ren_good {code : List (List Int)} (hv : validC code = true) : Good (sumLen code / 2) (renameC code).flatten ∧ sumLen (renameC code) = sumLen code := by
  obtain ⟨N, g1, g2, g3, g4⟩ := validC_true hv
  have hn := nums_len hv
  have hg := numsL_g code.flatten
  unfold renameC
  refine ⟨?_, ?_⟩
  · rw [renC_flatten]
    constructor
    · unfold List.Nodup
      rw [List.pairwise_filterMap]
      refine List.Pairwise.imp ?_ g4.1
      intro x y hxy a ha b hb e
      subst e
      obtain ⟨u, h1, h2⟩ := renX_some ha
      obtain ⟨v, h3, h4⟩ := renX_some hb
      have b1 := numsL_ok _ _ _ h1
      have b2 := numsL_ok _ _ _ h3
      have hs : (0 < x ↔ 0 < y) ∧ u = v := by
        rw [h2] at h4
        split at h4 <;> split at h4 <;> omega
      obtain ⟨hs, rfl⟩ := hs
      exact hxy (crI_back (hg.inj h1 h3) hs)
    · intro b hb
      obtain ⟨x, hx, hb⟩ := List.mem_filterMap.1 hb
      obtain ⟨u, h1, h2⟩ := renX_some hb
      have b1 := numsL_ok _ _ _ h1
      split at h2 <;> omega
  · rw [← flatten_len, renC_flatten, filterMap_len, flatten_len]
    intro x hx
    obtain ⟨v, _, _, _, h⟩ := ren_some hx
    exact ⟨_, h⟩
theorem ren_valid {code : List (List Int)} (hv : validC code = true) : validC (renameC code) = true := by
  obtain ⟨N, g1, g2, g3, g4⟩ := validC_true hv
  obtain ⟨h1, h2⟩ := ren_good hv
  have eN : sumLen code / 2 = N := by omega
  rw [eN] at h1
  rw [validC_good (N := N) (by unfold renameC; rw [renC_length]; exact g1) (by omega) g3]
  exact decide_eq_true h1
def idL (n : Nat) : List (Int × Int) := (List.range n).map fun j : Nat => ((j : Int), (j : Int))
theorem idL_look {n : Nat} {c : Int} : (idL n).lookup c = if 0 ≤ c ∧ c < (n : Int) then some c else none := by
  induction n with
  | zero =>
    rw [if_neg (by omega)]
    rfl
  | succ n ih =>
    have e : idL (n + 1) = idL n ++ [((n : Int), (n : Int))] := by unfold idL; rw [List.range_succ, List.map_append]; rfl
    rw [e, lookup_snoc2, ih]
    by_cases h : 0 ≤ c ∧ c < (n : Int)
    · rw [if_pos h, if_neg (show ¬ c = (n : Int) by omega), if_pos (show 0 ≤ c ∧ c < ((n + 1 : Nat) : Int) by omega)]
      rfl
    · rw [if_neg h]
      by_cases hc : c = (n : Int)
      · rw [if_pos hc, if_pos (show 0 ≤ c ∧ c < ((n + 1 : Nat) : Int) by omega), hc]
        rfl
      · rw [if_neg hc, if_neg (show ¬ (0 ≤ c ∧ c < ((n + 1 : Nat) : Int)) by omega)]
        rfl
theorem idL_len (n : Nat) : (idL n).length = n := by simp [idL]
theorem idL_step {n : Nat} {c : Int} (h : c = (n : Int)) : numStep (idL n) c = idL (n + 1) := by
  unfold numStep
  rw [if_pos (by rw [idL_look, if_neg (by omega)]), idL_len, h]
  unfold idL
  rw [List.range_succ, List.map_append]
  rfl
theorem idL_same {n : Nat} {c : Int} (h0 : 0 ≤ c) (h : c < (n : Int)) : numStep (idL n) c = idL n := by
  unfold numStep
  rw [if_neg (by rw [idL_look, if_pos ⟨h0, h⟩]; simp)]
theorem nums_id (m : List Int) : ∀ (k : Nat) (l : List Int), l.length = k → ∀ t, m = l ++ t → numsL (l.filterMap (renX (numF (numsL m)))) = idL (numsL l).length := by
  intro k
  induction k with
  | zero =>
    intro l hl t _
    obtain rfl : l = [] := List.eq_nil_of_length_eq_zero hl
    rfl
  | succ k ih =>
    intro l hl t hm
    obtain ⟨p, x, rfl⟩ : ∃ p x, l = p ++ [x] := by
      rcases List.eq_nil_or_concat l with h | ⟨p, x, h⟩
      · rw [h] at hl
        simp at hl
      · exact ⟨p, x, by simpa using h⟩
    have ih := ih p (by simpa using hl) ([x] ++ t) (by rw [hm]; simp)
    obtain ⟨v, hv, hv0, hvl, hr⟩ := ren_some (l := m) (x := x) (by rw [hm]; simp)
    have hcr : crI (if 0 < x then v + 1 else -v - 1) = v := by unfold crI; split <;> omega
    rw [List.filterMap_append, List.filterMap_cons_some hr, List.filterMap_nil, numsL_snoc, ih, hcr, numsL_snoc]
    have hkeep : ∀ u, (numsL (p ++ [x])).lookup (crI x) = some u → u = v := fun u hu => by
      have := numsL_keep (m := t) hu
      rw [← hm, hv] at this
      injection this with this
      exact this.symm
    rw [numsL_snoc] at hkeep
    cases hq : (numsL p).lookup (crI x) with
    | none =>
      have e : numStep (numsL p) (crI x) = numsL p ++ [(crI x, ((numsL p).length : Int))] := by unfold numStep; rw [if_pos hq]
      rw [e] at hkeep ⊢
      have hv2 := hkeep ((numsL p).length : Int) (by rw [lookup_snoc2, hq, if_pos rfl]; rfl)
      rw [idL_step hv2.symm, List.length_append, List.length_singleton]
    | some u =>
      have e : numStep (numsL p) (crI x) = numsL p := by unfold numStep; rw [if_neg (by rw [hq]; simp)]
      rw [e] at hkeep ⊢
      have hv2 := hkeep u hq
      have hb := numsL_ok p _ _ hq
      rw [idL_same (by omega) (by omega)]
/-- Renaming is done once. -/
theorem ren_twice {code : List (List Int)} (hv : validC code = true) : renameC (renameC code) = renameC code := by
  have h1 := nums_id code.flatten _ code.flatten rfl [] (by simp)
  have h2 := (ren_good hv).1
  have hn := nums_len hv
  have e : numsL (renameC code).flatten = idL (sumLen code / 2) := by
    unfold renameC
    rw [renC_flatten, h1, hn]
  show renC (numF (numsL (renameC code).flatten)) (renameC code) = renameC code
  rw [e]
  unfold renC
  conv => rhs; rw [← List.map_id (renameC code)]
  refine List.map_congr_left fun r hr => ?_
  unfold renRow
  have key : ∀ l : List Int, (∀ x ∈ l, x ∈ r) → l.filterMap (renX (numF (idL (sumLen code / 2)))) = l := by
    intro l
    induction l with
    | nil => intro _; rfl
    | cons x t ih =>
      intro h
      have hx := h2.2 x (List.mem_flatten.2 ⟨r, hr, h x List.mem_cons_self⟩)
      have hren : renX (numF (idL (sumLen code / 2))) x = some x := by
        unfold renX numF
        rw [idL_look, if_pos (by unfold crI; omega), Option.map_some]
        congr 1
        unfold crI
        split <;> omega
      rw [List.filterMap_cons_some hren, ih fun y hy => h y (List.mem_cons_of_mem _ hy)]
  exact key r fun x hx => hx

/-- what the least is taken of -/
def InS (xs y : List Int) : Prop := ∃ a, a < xs.length ∧ ∃ b, y = renL (turnL xs a b)
theorem triS_mem {xs y : List Int} : y ∈ triS xs xs.length ↔ InS xs y := by
  unfold triS InS
  rw [List.mem_flatten]
  constructor
  · rintro ⟨l, hl, hy⟩
    obtain ⟨a, ha, rfl⟩ := List.mem_map.1 hl
    have ha := List.mem_range.1 ha
    rcases List.mem_cons.1 hy with rfl | hy
    · exact ⟨a, ha, false, rfl⟩
    · rw [List.mem_singleton] at hy
      exact ⟨a, ha, true, hy⟩
  · rintro ⟨a, ha, b, rfl⟩
    refine ⟨_, List.mem_map.2 ⟨a, List.mem_range.2 ha, rfl⟩, ?_⟩
    cases b <;> simp
theorem turn_zero (xs : List Int) : turnL xs 0 false = xs := by
  apply List.ext_getElem?
  intro k
  unfold turnL
  rw [List.getElem?_map]
  by_cases hk : k < xs.length
  · rw [List.getElem?_range hk, Option.map_some]
    unfold turnX
    rw [if_neg (by simp), Nat.zero_add, Nat.mod_eq_of_lt hk, List.getD_eq_getElem?_getD, List.getElem?_eq_getElem hk]
    rfl
  · rw [List.getElem?_eq_none (by simp; omega), List.getElem?_eq_none (by omega)]
    rfl
theorem least_spec {xs : List Int} (h : 0 < xs.length) : InS xs (leastR xs) ∧ ∀ y, InS xs y → cmpL (leastR xs) y ≤ 0 := by
  unfold leastR
  refine ⟨?_, fun y hy => leastL_le _ _ y (triS_mem.2 hy)⟩
  rcases leastL_mem (triS xs xs.length) (renL xs) with e | e
  · rw [e]
    exact ⟨0, h, false, by rw [turn_zero]⟩
  · exact triS_mem.1 e
theorem least_same {xs ys : List Int} (hl : xs.length = ys.length) (h : ∀ y, InS xs y ↔ InS ys y) : leastR xs = leastR ys := by
  by_cases h0 : xs.length = 0
  · rw [List.eq_nil_of_length_eq_zero h0, List.eq_nil_of_length_eq_zero (show ys.length = 0 by omega)]
  · obtain ⟨a1, a2⟩ := least_spec (xs := xs) (by omega)
    obtain ⟨b1, b2⟩ := least_spec (xs := ys) (by omega)
    have h1 := a2 _ ((h _).2 b1)
    have h2 := b2 _ ((h _).1 a1)
    have h3 := cmpL_neg (leastR xs) (leastR ys)
    exact cmpL_eq _ _ (by omega)
theorem turnL_getD {xs : List Int} {a k : Nat} {b : Bool} (hk : k < xs.length) : (turnL xs a b).getD k 0 = turnX xs a b k := by
  unfold turnL
  rw [List.getD_eq_getElem?_getD, List.getElem?_map, List.getElem?_range hk]
  rfl
theorem turn_turn {xs : List Int} {k a : Nat} {b : Bool} (h : 0 < xs.length) : turnL (turnL xs k false) a b = turnL xs ((k + a) % xs.length) b := by
  unfold turnL
  rw [List.length_map, List.length_range]
  apply List.map_congr_left
  intro j hj
  have hj := List.mem_range.1 hj
  have hlen : ((List.range xs.length).map (turnX xs k false)).length = xs.length := by simp
  have e0 : ∀ L : List Int, turnX L a b j = L.getD (if b = true then (a + L.length - j) % L.length else (a + j) % L.length) 0 := fun _ => rfl
  rw [e0, hlen]
  have key : ∀ i, i < xs.length → ((List.range xs.length).map (turnX xs k false)).getD i 0 = xs.getD ((k + i) % xs.length) 0 := fun i hi => by
    have := turnL_getD (xs := xs) (a := k) (b := false) hi
    unfold turnL at this
    rw [this]
    unfold turnX
    rw [if_neg (by simp)]
  rw [key _ (by split <;> exact Nat.mod_lt _ h)]
  unfold turnX
  cases b
  · rw [if_neg (by simp), if_neg (by simp), Nat.add_mod_mod, Nat.mod_add_mod, Nat.add_assoc]
  · rw [if_pos rfl, if_pos rfl, Nat.add_mod_mod]
    congr 1
    rw [show (k + a) % xs.length + xs.length - j = (k + a) % xs.length + (xs.length - j) by omega, Nat.mod_add_mod]
    congr 1
    omega
theorem inS_turn {xs : List Int} (k : Nat) (y : List Int) : InS (turnL xs k false) y ↔ InS xs y := by
  by_cases h : 0 < xs.length
  · unfold InS
    rw [turnL_len]
    constructor
    · rintro ⟨a, ha, b, rfl⟩
      exact ⟨(k + a) % xs.length, Nat.mod_lt _ h, b, by rw [turn_turn h]⟩
    · rintro ⟨a, ha, b, rfl⟩
      refine ⟨(a + (xs.length - k % xs.length)) % xs.length, Nat.mod_lt _ h, b, ?_⟩
      rw [turn_turn h]
      congr 2
      have hk := Nat.mod_lt k h
      rw [Nat.add_mod_mod]
      have e : (k + (a + (xs.length - k % xs.length))) % xs.length = (k % xs.length + (a + (xs.length - k % xs.length))) % xs.length := by rw [Nat.mod_add_mod]
      rw [e, show k % xs.length + (a + (xs.length - k % xs.length)) = a + xs.length by omega, Nat.add_mod_right, Nat.mod_eq_of_lt ha]
  · unfold InS
    rw [turnL_len]
    constructor
    · rintro ⟨a, ha, _⟩; omega
    · rintro ⟨a, ha, _⟩; omega
theorem rev_turn2 {xs : List Int} {a : Nat} {b : Bool} (ha : a < xs.length) : turnL xs.reverse a b = turnL xs (xs.length - 1 - a) (!b) := by
  cases b
  · exact rev_turn ha
  · have := rev_turn (xs := xs.reverse) (a := xs.length - 1 - a) (by rw [List.length_reverse]; omega)
    rw [List.reverse_reverse, List.length_reverse, show xs.length - 1 - (xs.length - 1 - a) = a by omega] at this
    exact this.symm
theorem inS_rev {xs : List Int} (y : List Int) : InS xs.reverse y ↔ InS xs y := by
  unfold InS
  rw [List.length_reverse]
  constructor
  · rintro ⟨a, ha, b, rfl⟩
    exact ⟨xs.length - 1 - a, by omega, !b, by rw [rev_turn2 ha]⟩
  · rintro ⟨a, ha, b, rfl⟩
    refine ⟨xs.length - 1 - a, by omega, !b, ?_⟩
    rw [rev_turn2 (by omega), Bool.not_not, show xs.length - 1 - (xs.length - 1 - a) = a by omega]
/-- The least form does not depend on where the curve begins, nor on its way. -/
theorem least_turned (xs : List Int) (k : Nat) : leastR (turnL xs k false).reverse = leastR xs :=
  least_same (by rw [List.length_reverse, turnL_len]) fun y => by rw [inS_rev, inS_turn]
theorem turnL_perm {xs : List Int} {a : Nat} {b : Bool} (ha : a < xs.length) : (turnL xs a b).Perm xs := by
  have key : ∀ (ys : List Int) (c : Nat), c < ys.length → (turnL ys c false).Perm ys := fun ys c hc => by
    rw [← rotL_eq hc]
    exact List.perm_append_comm.trans (by rw [List.take_append_drop])
  cases b
  · exact key xs a ha
  · have := rev_turn2 (xs := xs) (a := xs.length - 1 - a) (b := false) (by omega)
    rw [show xs.length - 1 - (xs.length - 1 - a) = a by omega] at this
    rw [show true = !false from rfl, ← this]
    exact (key _ _ (by rw [List.length_reverse]; omega)).trans (List.reverse_perm xs)
theorem valid_perm {xs ys : List Int} (h : xs.Perm ys) (hv : validC [ys] = true) : validC [xs] = true := by
  obtain ⟨N, g1, g2, g3, g4⟩ := validC_true hv
  have e : ∀ l : List Int, [l].flatten = l := fun l => by simp
  have e2 : ∀ l : List Int, sumLen [l] = l.length := fun l => by simp [sumLen]
  rw [e2] at g2
  rw [e] at g4
  rw [validC_good (N := N) (by simp) (by rw [e2, h.length_eq]; exact g2) g3, e]
  exact decide_eq_true ⟨h.nodup_iff.2 g4.1, fun x hx => g4.2 x (h.mem_iff.1 hx)⟩
theorem least_valid {xs : List Int} (hv : validC [xs] = true) : validC [leastR xs] = true := by
  by_cases h : 0 < xs.length
  · obtain ⟨a, ha, b, e⟩ := (least_spec h).1
    rw [e, ← renameC_one]
    exact ren_valid (valid_perm (turnL_perm ha) hv)
  · obtain rfl : xs = [] := List.eq_nil_of_length_eq_zero (by omega)
    decide +kernel
end Go.Proofs.Ytnjojnnapdhijaa

namespace Go.Proofs.Ytnjojnnapdhijaa
open Go.RowKit
set_option linter.unusedVariables false

set_option maxHeartbeats 400000 in
theorem l00Same_any (A B : Option Addr) (c d : Nat) (xs ys : List Int) (w : World) (hA : RI w A xs) (hB : RI w B ys) (hn : xs.length ≤ 1048576) (hm : ys.length ≤ 1048576) :
    Calls Try.prog 83 #[.slice A xs.length c, .slice B ys.length d] w (RetQ w (.bool (decide (xs = ys)))) := by
  by_cases hl : xs.length = ys.length
  · have HL := hide hl
    have hnm : ((xs.length : Int) != (ys.length : Int)) = false := by simp [hl]
    clear hl
    go_enter Try.func83, Try.ntmps83
    go_wp2
    go_loopw [5] (fun i wr => ∃ (k : Nat), k ≤ xs.length ∧ i = .int .i64 k ∧ Hid (xs.take k = ys.take k) ∧ ∃ n, wr = w.drewN n)
      (fun i _ => xs.length - (intOf i).toNat)
    case atStart => exact ⟨0, Nat.zero_le _, rfl, hide (by simp), 0, rfl⟩
    case round =>
      obtain ⟨k, hk, rfl, ht, n, rfl⟩ := hrel
      by_cases hlt : k < xs.length
      · obtain ⟨b, off, x, rfl, hb, hx, hc⟩ := hA.at_ hlt
        obtain ⟨b', off', y, rfl, hb', hy, hc'⟩ := hB.at_ (k := k) (by have := HL.out; omega)
        have hlt' : (k : Int) < (ys.length : Int) := by have := HL.out; omega
        by_cases hxy : x = y
        · subst hxy
          have HT := hide (take_eq_next hx hy ht.out)
          have hne : (x != x) = false := by simp
          go_wp2_with fail
          go_quiet (fail)
          go_wp2
          go_roundw
          case rel => exact ⟨k + 1, by omega, by go_num, HT, _, rfl⟩
          case measure => simp [intOf]; omega
        · have HN := hide (ne_at hx hy hxy)
          have hne : (x != y) = true := by simpa using hxy
          go_wp2_with fail
          go_quiet (fail)
          go_wp2
          go_ret
          rw [HN.out]
          exact ⟨rfl, _, by rw [World.drewN_drewN]⟩
      · go_wp2
        go_ret
        have he : xs = ys := take_eq_all HL.out (by omega) ht.out
        rw [decide_eq_true he]
        exact ⟨rfl, _, rfl⟩
  · have HN := hide (ne_len hl)
    have hnm : ((xs.length : Int) != (ys.length : Int)) = true := by rw [bne_iff_ne]; omega
    go_enter Try.func83, Try.ntmps83
    go_wp2
    go_ret
    rw [HN.out]
    exact ⟨rfl, 0, rfl⟩
/-- A function that hands back a polynomial whose coefficients lie in memory of its own. -/
def RetP (w : World) (low : Int) (xs : List Int) (e : Ending) (w' : World) : Prop :=
  ∃ A c, e = .returned (.agg #[.int .i64 low, .slice A xs.length c]) ∧ OwnI w' w.heap.size A c xs ∧ Below w.heap.size w w'

end Go.Proofs.Ytnjojnnapdhijaa

namespace Go.Proofs.Ytnjojnnapdhijaa
open Go.RowKit
set_option linter.unusedVariables false

theorem f6big_any (A : Option Addr) (n c : Nat) (w : World) : Calls Try.prog 7 #[.slice A n c] w fun e w' => e = .returned (.bool (decide (4096 < n))) ∧ w = w' := by
  by_cases h : 4096 < n
  · have h1 : (4096 : Int) < (n : Int) := by omega
    rw [decide_eq_true h]
    go_enter Try.func7, Try.ntmps7
    go_wp2_with fail
    go_ret
    exact ⟨rfl, rfl⟩
  · have h1 : ¬ (4096 : Int) < (n : Int) := by omega
    rw [decide_eq_false h]
    go_enter Try.func7, Try.ntmps7
    go_wp2_with fail
    go_ret
    exact ⟨rfl, rfl⟩
set_option maxHeartbeats 1000000 in
theorem f6ints_same (A B : Option Addr) (c d : Nat) (xs : List Int) (w : World) (hA : RI w A xs) (hB : RI w B xs) (hn : xs.length ≤ 1048576) :
    Calls Try.prog 43 #[.slice A xs.length c, .slice B xs.length d] w (RetQ w (.bool true)) := by
  have hnm : ((xs.length : Int) != (xs.length : Int)) = false := by simp
  go_enter Try.func43, Try.ntmps43
  go_wp2
  go_loopw [5] (fun i wr => ∃ (k : Nat), k ≤ xs.length ∧ i = .int .i64 k ∧ ∃ n, wr = w.drewN n)
    (fun i _ => xs.length - (intOf i).toNat)
  case atStart => exact ⟨0, Nat.zero_le _, rfl, 0, rfl⟩
  case round =>
    obtain ⟨k, hk, rfl, n, rfl⟩ := hrel
    by_cases hlt : k < xs.length
    · obtain ⟨b, off, x, rfl, hb, hx, hc⟩ := hA.at_ hlt
      obtain ⟨b', off', y, rfl, hb', hy, hc'⟩ := hB.at_ (k := k) hlt
      obtain rfl : y = x := by rw [hx] at hy; injection hy with hy; exact hy.symm
      have hne : (y != y) = false := by simp
      go_wp2_with fail
      go_quiet (fail)
      go_wp2
      go_roundw
      case rel => exact ⟨k + 1, by omega, by go_num, _, rfl⟩
      case measure => simp [intOf]; omega
    · go_wp2
      go_ret
      exact ⟨rfl, _, rfl⟩
set_option maxHeartbeats 1000000 in
theorem f6lists_same (A B : Option Addr) (c d T1 T2 : Nat) (xs : List (List Int)) (w : World) (hA : RC w T1 A xs) (hB : RC w T2 B xs) (hn : xs.length + sumLen xs ≤ 1048576) :
    Calls Try.prog 44 #[.slice A xs.length c, .slice B xs.length d] w (RetQ w (.bool true)) := by
  have hnm : ((xs.length : Int) != (xs.length : Int)) = false := by simp
  go_enter Try.func44, Try.ntmps44
  go_wp2
  go_loopw [5] (fun i wr => ∃ (k : Nat), k ≤ xs.length ∧ i = .int .i64 k ∧ ∃ n, wr = w.drewN n)
    (fun i _ => xs.length - (intOf i).toNat)
  case atStart => exact ⟨0, Nat.zero_le _, rfl, 0, rfl⟩
  case round =>
    obtain ⟨k, hk, rfl, n, hwn⟩ := hrel
    have hA1 : RC wr T1 A xs := by rw [hwn]; exact hA.drewN n
    have hB1 : RC wr T2 B xs := by rw [hwn]; exact hB.drewN n
    have HWN := hide hwn
    clear hwn
    by_cases hlt : k < xs.length
    · obtain ⟨b, off, E, f, x, rfl, hb, hx, hc, _, _, hrx⟩ := hA1.row hlt
      obtain ⟨b', off', E', f', y, rfl, hb', hy, hc', _, _, hry⟩ := hB1.row (k := k) hlt
      obtain rfl : y = x := by rw [hx] at hy; injection hy with hy; exact hy.symm
      have hxl := sumLen_row hx
      clear hx hy
      go_wp2_with fail
      go_quiet ((go_at_call 43; exact Calls.quiet_of (f6ints_same _ _ _ _ y _ (hrx.drewN _) (hry.drewN _) (by omega))))
      go_wp2_with fail
      go_roundw
      case rel => exact ⟨k + 1, by omega, by go_num, _, by rw [HWN.out, World.drewN_drewN]⟩
      case measure => simp [intOf]; omega
    · go_wp2
      go_ret
      exact ⟨rfl, _, HWN.out⟩
set_option maxHeartbeats 1000000 in
theorem sameCode_same (A B : Option Addr) (c d T1 T2 : Nat) (xs : List (List Int)) (w : World) (hA : RC w T1 A xs) (hB : RC w T2 B xs) (hn : xs.length + sumLen xs ≤ 1048576) :
    Calls Try.prog 29 #[.slice A xs.length c, .slice B xs.length d] w (RetQ w (.bool true)) := by
  have hnm : ((xs.length : Int) != (xs.length : Int)) = false := by simp
  go_enter Try.func29, Try.ntmps29
  go_wp2
  go_loopw [5] (fun i wr => ∃ (k : Nat), k ≤ xs.length ∧ i = .int .i64 k ∧ ∃ n, wr = w.drewN n)
    (fun i _ => xs.length - (intOf i).toNat)
  case atStart => exact ⟨0, Nat.zero_le _, rfl, 0, rfl⟩
  case round =>
    obtain ⟨k, hk, rfl, n, hwn⟩ := hrel
    have hA1 : RC wr T1 A xs := by rw [hwn]; exact hA.drewN n
    have hB1 : RC wr T2 B xs := by rw [hwn]; exact hB.drewN n
    have HWN := hide hwn
    clear hwn
    by_cases hlt : k < xs.length
    · obtain ⟨b, off, E, f, x, rfl, hb, hx, hc, _, _, hrx⟩ := hA1.row hlt
      obtain ⟨b', off', E', f', y, rfl, hb', hy, hc', _, _, hry⟩ := hB1.row (k := k) hlt
      obtain rfl : y = x := by rw [hx] at hy; injection hy with hy; exact hy.symm
      have hxl := sumLen_row hx
      have hdd : decide (y = y) = true := by simp
      clear hx hy
      go_wp2_with fail
      go_quiet ((go_at_call 83; exact Calls.quiet_of (l00Same_any _ _ _ _ y y _ (hrx.drewN _) (hry.drewN _) (by omega) (by omega))))
      go_wp2_with fail
      go_roundw
      case rel => exact ⟨k + 1, by omega, by go_num, _, by rw [HWN.out, World.drewN_drewN]⟩
      case measure => simp [intOf]; omega
    · go_wp2
      go_ret
      exact ⟨rfl, _, HWN.out⟩
/-- how many crossings, and a code -/
def countR (code : List (List Int)) : Int × Int := if validC code = true then (((sumLen code / 2 : Nat) : Int), 0) else (0, 1)
theorem implCountCoded_any (A : Option Addr) (c T : Nat) (code : List (List Int)) (w : World) (hc : RC w T A code) (hn : code.length + sumLen code ≤ 1048576) :
    Calls Try.prog 45 #[.slice A code.length c] w (RetV w (.tuple #[.int .i64 (countR code).1, .int .i64 (countR code).2])) := by
  cases hv : validC code
  · have hr : countR code = (0, 1) := by unfold countR; rw [hv]; rfl
    rw [hr]
    go_enter Try.func45, Try.ntmps45
    go_wp2_with fail
    refine (validCode_any _ _ T code _ hc hn).mono ?_
    rw [hv]
    rintro e w1 ⟨rfl, hb1⟩
    go_wp2_with fail
    go_ret2
    exact ⟨rfl, hb1⟩
  · have hr : countR code = (((sumLen code / 2 : Nat) : Int), 0) := by unfold countR; rw [hv]; rfl
    rw [hr]
    go_enter Try.func45, Try.ntmps45
    go_wp2_with fail
    refine (validCode_any _ _ T code _ hc hn).mono ?_
    rw [hv]
    rintro e w1 ⟨rfl, hb1⟩
    have HC := hide (countCoded_any A c T code _ (hc.below hb1) hn)
    go_wp2_with fail
    refine HC.out.mono ?_
    rintro e w2 ⟨rfl, rfl⟩
    go_wp2_with fail
    go_ret2
    exact ⟨rfl, hb1⟩
end Go.Proofs.Ytnjojnnapdhijaa
