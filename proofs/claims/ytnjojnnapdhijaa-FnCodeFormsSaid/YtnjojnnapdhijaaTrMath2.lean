/-
  The curves of a panel, in plain Lean: which curve owns each segment, and what is known of it. Conditions: a valid panel's sides.
-/
import Derived.Test.YtnjojnnapdhijaaTrMath
namespace Go.Proofs.Ytnjojnnapdhijaa
set_option linter.unusedVariables false

/-- a curve's label put to all its segments -/
def markL (ht : Int) (o : List Int) (c : List Wk) (m : Int) : List Int := c.foldl (fun o x => o.set (segN ht x) m) o
section
variable {ht m : Int}
theorem markL_len (c : List Wk) : ∀ o : List Int, (markL ht o c m).length = o.length := by
  induction c with
  | nil => intro o; rfl
  | cons x t ih => intro o; show (markL ht (o.set (segN ht x) m) t m).length = _; rw [ih, List.length_set]
theorem markL_next {c : List Wk} {i : Nat} {x : Wk} (o : List Int) (hx : c[i]? = some x) : markL ht o (c.take (i + 1)) m = (markL ht o (c.take i) m).set (segN ht x) m := by
  unfold markL
  rw [List.take_add_one, hx, List.foldl_append]
  rfl
theorem markL_out {k : Nat} (c : List Wk) : ∀ o : List Int, (∀ x ∈ c, segN ht x ≠ k) → (markL ht o c m)[k]? = o[k]? := by
  induction c with
  | nil => intro o _; rfl
  | cons x t ih =>
    intro o h
    show (markL ht (o.set (segN ht x) m) t m)[k]? = _
    rw [ih _ (fun y hy => h y (by simp [hy])), List.getElem?_set_ne (h x (by simp))]
theorem markL_keep {k : Nat} (c : List Wk) : ∀ o : List Int, o[k]? = some m → (markL ht o c m)[k]? = some m := by
  induction c with
  | nil => intro o h; exact h
  | cons x t ih =>
    intro o h
    refine ih (o.set (segN ht x) m) ?_
    by_cases e : segN ht x = k
    · rw [e, List.getElem?_set_self (List.getElem?_eq_some_iff.1 h).1]
    · rw [List.getElem?_set_ne e]; exact h
theorem markL_in {x : Wk} (c : List Wk) : ∀ o : List Int, x ∈ c → segN ht x < o.length → (markL ht o c m)[segN ht x]? = some m := by
  induction c with
  | nil => intro o h; cases h
  | cons y t ih =>
    intro o h hl
    rcases List.mem_cons.1 h with rfl | h
    · exact markL_keep t _ (List.getElem?_set_self hl)
    · exact ih (o.set (segN ht y) m) h (by rw [List.length_set]; exact hl)
end

/-- the walker along a segment to the right -/
def walkK (ht k : Int) : Wk := if (k / (2 * ht) + k % (2 * ht)) % 2 = 1 then ⟨k / (2 * ht), k % (2 * ht), 1, 1⟩ else ⟨k / (2 * ht), k % (2 * ht) + 1, 1, -1⟩
section
variable {wd ht : Int} {xs : List Int}
theorem walkK_ok (hs : Sz wd ht) {k : Nat} (hk : k < nSeg wd ht) : OkW wd ht (walkK ht k) ∧ segN ht (walkK ht k) = k := by
  have hn := nSeg_int hs
  obtain ⟨s1, s2, s3, s4⟩ := hs
  have hkk : (k : Int) < 4 * wd * ht := by omega
  clear hn
  unfold segN segW loX loY OkW OnP walkK
  simp only [Wk.nx, Wk.ny]
  rcases eight s3 s4 with rfl | rfl | rfl | rfl | rfl | rfl | rfl | rfl <;> split <;> simp <;> omega

noncomputable def trStep (wd ht : Int) (xs : List Int) (st : List Int × List (List Wk)) (k : Nat) : List Int × List (List Wk) :=
  if 0 ≤ st.1.getD k 0 then st else (markL ht st.1 (orbW wd ht xs (walkK ht k)) st.2.length, st.2 ++ [orbW wd ht xs (walkK ht k)])
noncomputable def trTo (wd ht : Int) (xs : List Int) : Nat → List Int × List (List Wk)
  | 0 => (List.replicate (nSeg wd ht) (-1), [])
  | k + 1 => trStep wd ht xs (trTo wd ht xs k) k

structure TrInv (wd ht : Int) (xs : List Int) (st : List Int × List (List Wk)) (k : Nat) : Prop where
  len : st.1.length = nSeg wd ht
  rng : ∀ (j : Nat) (v : Int), st.1[j]? = some v → -1 ≤ v ∧ v < (st.2.length : Int)
  pos : ∀ (j : Nat) (v : Int), j < k → st.1[j]? = some v → 0 ≤ v
  closed : ∀ a, OkW wd ht a → st.1[segN ht a]? = st.1[segN ht (stepW wd ht xs a)]?
  start : ∀ (i : Nat) c, st.2[i]? = some c → ∃ j, j < nSeg wd ht ∧ c = orbW wd ht xs (walkK ht (j : Nat)) ∧ st.1[j]? = some (i : Int) ∧ ∀ j', j' < j → st.1[j']? ≠ some (i : Int)
  mem : ∀ (i : Nat) c, st.2[i]? = some c → ∀ x ∈ c, st.1[segN ht x]? = some (i : Int)
  cnt : st.2.length ≤ k
  cov : ∀ a (v : Int), OkW wd ht a → st.1[segN ht a]? = some v → 0 ≤ v → ∃ c, st.2[v.toNat]? = some c ∧ (a ∈ c ∨ backW a ∈ c)
theorem trInv_zero (hs : Sz wd ht) : TrInv wd ht xs (List.replicate (nSeg wd ht) (-1), []) 0 := by
  refine ⟨by simp, fun j v h => ?_, fun j v h => by omega, fun a h => ?_, fun i c h => by simp at h, fun i c h => by simp at h, by simp, fun a v h h1 h2 => ?_⟩
  · rw [List.getElem?_replicate] at h
    split at h
    · injection h with h; subst h; simp
    · cases h
  · rw [List.getElem?_replicate, if_pos (segN_int hs h).2, List.getElem?_replicate, if_pos (segN_int hs (okW_step h)).2]
  · rw [List.getElem?_replicate, if_pos (segN_int hs h).2] at h1
    injection h1 with h1
    omega
/-- along a curve one label stands -/
theorem TrInv.along {st : List Int × List (List Wk)} {k : Nat} (h : TrInv wd ht xs st k) {a : Wk} (ha : OkW wd ht a) : ∀ i, st.1[segN ht (itW wd ht xs i a)]? = st.1[segN ht a]?
  | 0 => rfl
  | i + 1 => by
    rw [← h.along ha i]
    exact (h.closed _ (okW_it ha i)).symm
theorem trInv_step (hs : Sz wd ht) {st : List Int × List (List Wk)} {k : Nat} (h : TrInv wd ht xs st k) (hk : k < nSeg wd ht) : TrInv wd ht xs (trStep wd ht xs st k) (k + 1) := by
  have hlk : k < st.1.length := by rw [h.len]; exact hk
  have hv : st.1[k]? = some (st.1.getD k 0) := by
    rw [List.getElem?_eq_getElem hlk]
    simp [List.getD, List.getElem?_eq_getElem hlk]
  unfold trStep
  by_cases hc : 0 ≤ st.1.getD k 0
  · rw [if_pos hc]
    refine ⟨h.len, h.rng, fun j v hj e => ?_, h.closed, h.start, h.mem, by have := h.cnt; omega, h.cov⟩
    by_cases hjk : j = k
    · subst hjk
      rw [hv] at e
      injection e with e
      omega
    · exact h.pos j v (by omega) e
  · rw [if_neg hc]
    obtain ⟨hw1, hw2⟩ := walkK_ok hs hk
    have hm1 : st.1.getD k 0 = -1 := by have := (h.rng k _ hv).1; omega
    rw [hm1] at hv
    generalize hcdef : orbW wd ht xs (walkK ht k) = c
    have hself : walkK ht k ∈ c := by
      rw [← hcdef]
      exact orbW_mem.2 ⟨0, (per_spec hs hw1).1, rfl⟩
    have hnext : ∀ x ∈ c, stepW wd ht xs x ∈ c := fun x hx => by rw [← hcdef] at hx ⊢; exact orbW_next hs hw1 hx
    have hprev : ∀ x ∈ c, ∃ y, y ∈ c ∧ stepW wd ht xs y = x := fun x hx => by rw [← hcdef] at hx ⊢; exact orbW_prev hs hw1 hx
    have hok : ∀ x ∈ c, OkW wd ht x := fun x hx => by rw [← hcdef] at hx; exact orbW_ok hw1 hx
    have hold : ∀ x ∈ c, st.1[segN ht x]? = some (-1) := fun x hx => by
      rw [← hcdef] at hx
      obtain ⟨i, _, rfl⟩ := orbW_mem.1 hx
      rw [h.along hw1 i, hw2, hv]
    have hsl : ∀ x, OkW wd ht x → segN ht x < st.1.length := fun x hx => by rw [h.len]; exact (segN_int hs hx).2
    have hsegN : ∀ x y, OkW wd ht x → OkW wd ht y → segN ht x = segN ht y → x = y ∨ x = backW y := fun x y hx hy e => by
      refine seg_inj hs hx hy ?_
      rw [← (segN_int hs hx).1, ← (segN_int hs hy).1, e]
    have hbk : ∀ x, OkW wd ht x → segN ht (backW x) = segN ht x := fun x hx => by unfold segN; rw [seg_back hx]
    have hin : ∀ j x, x ∈ c → segN ht x = j → (markL ht st.1 c st.2.length)[j]? = some (st.2.length : Int) := fun j x hx e => by
      subst e
      exact markL_in c st.1 hx (hsl x (hok x hx))
    have hout : ∀ j, (¬ ∃ x, x ∈ c ∧ segN ht x = j) → (markL ht st.1 c st.2.length)[j]? = st.1[j]? := fun j hj => markL_out c st.1 (fun x hx e => hj ⟨x, hx, e⟩)
    have hstay : ∀ (j i : Nat), st.1[j]? = some (i : Int) → (markL ht st.1 c st.2.length)[j]? = some (i : Int) := fun j i e => by
      rw [hout j (fun ⟨x, hx, e2⟩ => by have := hold x hx; rw [e2, e] at this; injection this with this; omega), e]
    refine ⟨by rw [← h.len]; exact markL_len c st.1, fun j v e => ?_, fun j v hj e => ?_, fun a ha => ?_, fun i c' e => ?_, fun i c' e x hx => ?_, by have := h.cnt; simp; omega, fun a v ha e h0 => ?_⟩
    · simp only [List.length_append, List.length_singleton]
      by_cases hj : ∃ x, x ∈ c ∧ segN ht x = j
      · obtain ⟨x, hx, e2⟩ := hj
        rw [hin j x hx e2] at e
        injection e with e
        omega
      · rw [hout j hj] at e
        have := h.rng j v e
        omega
    · by_cases hjc : ∃ x, x ∈ c ∧ segN ht x = j
      · obtain ⟨x, hx, e2⟩ := hjc
        rw [hin j x hx e2] at e
        injection e with e
        omega
      · rw [hout j hjc] at e
        by_cases hjk : j = k
        · subst hjk
          exact absurd ⟨_, hself, hw2⟩ hjc
        · exact h.pos j v (by omega) e
    · by_cases hj : ∃ x, x ∈ c ∧ segN ht x = segN ht a
      · obtain ⟨x, hx, e2⟩ := hj
        rw [hin _ x hx e2]
        rcases hsegN a x ha (hok x hx) e2.symm with e3 | e3
        · subst e3
          rw [hin _ _ (hnext a hx) rfl]
        · obtain ⟨y, hy, e4⟩ := hprev x hx
          rw [e3, ← e4, step_back_step, hbk y (hok y hy), hin _ y hy rfl]
      · have hj2 : ¬ ∃ x, x ∈ c ∧ segN ht x = segN ht (stepW wd ht xs a) := fun ⟨x, hx, e2⟩ => by
          rcases hsegN _ x (okW_step ha) (hok x hx) e2.symm with e3 | e3
          · obtain ⟨y, hy, e4⟩ := hprev x hx
            rw [← e4] at e3
            have e5 := step_inj e3
            subst e5
            exact hj ⟨a, hy, rfl⟩
          · rw [← step_back_step (wd := wd) (ht := ht) (xs := xs) x] at e3
            have e5 := step_inj e3
            have hy := hnext x hx
            exact hj ⟨_, hy, by rw [e5, hbk _ (hok _ hy)]⟩
        rw [hout _ hj, hout _ hj2]
        exact h.closed a ha
    · by_cases hi : i < st.2.length
      · rw [List.getElem?_append_left hi] at e
        obtain ⟨j, j1, j2, j3, j4⟩ := h.start i c' e
        refine ⟨j, j1, j2, hstay j i j3, fun j' hj' e2 => ?_⟩
        by_cases hjc : ∃ x, x ∈ c ∧ segN ht x = j'
        · obtain ⟨x, hx, e3⟩ := hjc
          rw [hin j' x hx e3] at e2
          injection e2 with e2
          omega
        · rw [hout j' hjc] at e2
          exact j4 j' hj' e2
      · rw [List.getElem?_append_right (by omega)] at e
        have hi0 : i - st.2.length = 0 := by
          have := (List.getElem?_eq_some_iff.1 e).1
          simp at this
          omega
        rw [hi0] at e
        simp at e
        have hie : i = st.2.length := by omega
        subst hie
        refine ⟨k, hk, by rw [← e, hcdef], hin k _ hself hw2, fun j' hj' e2 => ?_⟩
        by_cases hjc : ∃ x, x ∈ c ∧ segN ht x = j'
        · obtain ⟨x, hx, e3⟩ := hjc
          have h1 := hold x hx
          rw [e3] at h1
          have := h.pos j' _ hj' h1
          omega
        · rw [hout j' hjc] at e2
          have := h.rng j' _ e2
          omega
    · by_cases hi : i < st.2.length
      · rw [List.getElem?_append_left hi] at e
        exact hstay _ i (h.mem i c' e x hx)
      · rw [List.getElem?_append_right (by omega)] at e
        have hi0 : i - st.2.length = 0 := by
          have := (List.getElem?_eq_some_iff.1 e).1
          simp at this
          omega
        rw [hi0] at e
        simp at e
        have hie : i = st.2.length := by omega
        subst hie e
        exact hin _ x hx rfl
    · by_cases hj : ∃ x, x ∈ c ∧ segN ht x = segN ht a
      · obtain ⟨x, hx, e2⟩ := hj
        rw [hin _ x hx e2] at e
        injection e with e
        subst e
        refine ⟨c, by simp, ?_⟩
        rcases hsegN a x ha (hok x hx) e2.symm with e3 | e3
        · exact .inl (e3 ▸ hx)
        · exact .inr (by rw [e3, back_back]; exact hx)
      · rw [hout _ hj] at e
        obtain ⟨c', e1, e2⟩ := h.cov a v ha e h0
        exact ⟨c', by rw [List.getElem?_append_left (List.getElem?_eq_some_iff.1 e1).1]; exact e1, e2⟩
theorem trInv_to (hs : Sz wd ht) : ∀ k, k ≤ nSeg wd ht → TrInv wd ht xs (trTo wd ht xs k) k
  | 0, _ => trInv_zero hs
  | k + 1, hk => trInv_step hs (trInv_to hs k (by omega)) (by omega)
/-- the owners of all segments; the curves -/
noncomputable def ownL (wd ht : Int) (xs : List Int) : List Int := (trTo wd ht xs (nSeg wd ht)).1
noncomputable def curL (wd ht : Int) (xs : List Int) : List (List Wk) := (trTo wd ht xs (nSeg wd ht)).2
theorem trInv_all (hs : Sz wd ht) : TrInv wd ht xs (ownL wd ht xs, curL wd ht xs) (nSeg wd ht) := trInv_to hs _ (Nat.le_refl _)
end
end Go.Proofs.Ytnjojnnapdhijaa
