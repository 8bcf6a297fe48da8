/-
  What passes over and under at each crossing of a panel, in plain Lean. Conditions: a valid panel's sides and breaks.
-/
import Derived.Test.YtnjojnnapdhijaaTr6
namespace Go.Proofs.Ytnjojnnapdhijaa
set_option linter.unusedVariables false

section
variable {wd ht : Int} {xs : List Int}
theorem cross_iff {x y : Int} : crossB wd ht xs x y = true ↔ ¬ Edge wd ht x y ∧ kindI wd ht xs x y = 0 := by
  unfold crossB edgeB
  simp
theorem step_cross {a : Wk} (h : crossB wd ht xs a.nx a.ny = true) : stepW wd ht xs a = ⟨a.nx, a.ny, a.dx, a.dy⟩ := by
  obtain ⟨h1, h2⟩ := cross_iff.1 h
  unfold Edge at h1
  have hx : ¬ FlipX wd ht xs a.nx a.ny := by unfold FlipX; omega
  have hy : ¬ FlipY wd ht xs a.nx a.ny := by unfold FlipY; omega
  unfold stepW
  rw [if_neg hx, if_neg hy]
end

/-- the index of the crossing ahead -/
def idxW (wd : Int) (xs : List Int) (a : Wk) : Nat := (zTo xs (numI wd a.nx a.ny).toNat).length
theorem zTo_mono (xs : List Int) {j : Nat} : ∀ {n : Nat}, j ≤ n → (zTo xs j).length ≤ (zTo xs n).length
  | 0, h => by obtain rfl : j = 0 := by omega
               exact Nat.le_refl _
  | n + 1, h => by
    by_cases e : j = n + 1
    · rw [e]; exact Nat.le_refl _
    · have := zTo_mono xs (j := j) (n := n) (by omega)
      rw [zTo, List.length_append]
      omega
theorem zTo_at {xs : List Int} {j : Nat} (h : xs.getD j 0 = 0) : ∀ {n : Nat}, j < n → (zTo xs n)[(zTo xs j).length]? = some (j : Int)
  | 0, hj => by omega
  | n + 1, hj => by
    by_cases e : j = n
    · subst e
      rw [zTo, if_pos h, List.getElem?_append_right (Nat.le_refl _), Nat.sub_self]
      rfl
    · have h1 := zTo_at h (n := n) (by omega)
      rw [zTo, List.getElem?_append_left (List.getElem?_eq_some_iff.1 h1).1]
      exact h1
theorem zTo_find {xs : List Int} {k : Nat} : ∀ {n : Nat}, k < (zTo xs n).length → ∃ j, j < n ∧ xs.getD j 0 = 0 ∧ (zTo xs j).length = k
  | 0, h => by simp [zTo] at h
  | n + 1, h => by
    by_cases h2 : k < (zTo xs n).length
    · obtain ⟨j, h3, h4, h5⟩ := zTo_find h2
      exact ⟨j, by omega, h4, h5⟩
    · rw [zTo, List.length_append] at h
      by_cases h0 : xs.getD n 0 = 0
      · rw [if_pos h0, List.length_singleton] at h
        exact ⟨n, by omega, h0, by omega⟩
      · rw [if_neg h0, List.length_nil] at h
        omega
theorem zTo_lt {xs : List Int} {j n : Nat} (h : xs.getD j 0 = 0) (hj : j < n) : (zTo xs j).length < (zTo xs n).length := (List.getElem?_eq_some_iff.1 (zTo_at h hj)).1

section
variable {wd ht : Int} {xs : List Int}
/-- each number of an inner point is one -/
theorem point_of (hs : Sz wd ht) {j : Nat} (hj : (j : Int) < innerN wd ht) : ∃ x y, OnP wd ht x y ∧ ¬ Edge wd ht x y ∧ numI wd x y = (j : Int) := by
  obtain ⟨s1, s2, s3, s4⟩ := hs
  unfold innerN at hj
  unfold OnP Edge numI
  by_cases hr : (j : Int) % (2 * wd - 1) < wd - 1
  · refine ⟨2 * ((j : Int) % (2 * wd - 1)) + 2, 2 * ((j : Int) / (2 * wd - 1)) + 1, ?_⟩
    rcases eight s1 s2 with rfl | rfl | rfl | rfl | rfl | rfl | rfl | rfl <;> omega
  · refine ⟨2 * ((j : Int) % (2 * wd - 1) - (wd - 1)) + 1, 2 * ((j : Int) / (2 * wd - 1)) + 2, ?_⟩
    rcases eight s1 s2 with rfl | rfl | rfl | rfl | rfl | rfl | rfl | rfl <;> omega
/-- a crossing's number -/
theorem num_cross (hs : Sz wd ht) (hl : (xs.length : Int) = innerN wd ht) {x y : Int} (hp : OnP wd ht x y) (h : crossB wd ht xs x y = true) : ∃ j : Nat, numI wd x y = (j : Int) ∧ j < xs.length ∧ xs.getD j 0 = 0 := by
  obtain ⟨h1, h2⟩ := cross_iff.1 h
  obtain ⟨_, _, k, v, e1, e2, e3, e4⟩ := inner_at (xs := xs) hs hp h1 hl
  exact ⟨k, e1, e2, by rw [List.getD_eq_getElem?_getD, e3, ← e4, h2]; rfl⟩
theorem idx_lt (hs : Sz wd ht) (hl : (xs.length : Int) = innerN wd ht) {a : Wk} (ha : OkW wd ht a) (h : crossB wd ht xs a.nx a.ny = true) : idxW wd xs a < (zTo xs xs.length).length := by
  obtain ⟨j, e1, e2, e3⟩ := num_cross hs hl ha.2.2.2 h
  unfold idxW
  rw [e1]
  exact zTo_lt e3 e2
end

def zW : Wk := ⟨0, 0, 0, 0⟩
/-- the walkers that go on, over or under, and their curves: one walker more -/
def putD (wd ht : Int) (xs : List Int) (b : Bool) (c : Int) (st : List Wk × List Int) (a : Wk) : List Wk × List Int :=
  if crossB wd ht xs a.nx a.ny = true ∧ overB a = b then (st.1.set (idxW wd xs a) ⟨a.nx, a.ny, a.dx, a.dy⟩, st.2.set (idxW wd xs a) c) else st
def rowD (wd ht : Int) (xs : List Int) (b : Bool) (c : Int) (st : List Wk × List Int) (cur : List Wk) : List Wk × List Int := cur.foldl (putD wd ht xs b c) st
noncomputable def toD (wd ht : Int) (xs : List Int) (b : Bool) : Nat → List Wk × List Int
  | 0 => (List.replicate (zTo xs xs.length).length zW, List.replicate (zTo xs xs.length).length 0)
  | i + 1 => rowD wd ht xs b (i : Int) (toD wd ht xs b i) ((curL wd ht xs).getD i [])
/-- what goes on over (true), under (false), and their curves -/
noncomputable def dirL (wd ht : Int) (xs : List Int) (b : Bool) : List Wk := (toD wd ht xs b (curL wd ht xs).length).1
noncomputable def dirC (wd ht : Int) (xs : List Int) (b : Bool) : List Int := (toD wd ht xs b (curL wd ht xs).length).2
section
variable {wd ht : Int} {xs : List Int} {b : Bool}
theorem rowD_next {c : Int} {st : List Wk × List Int} {cur : List Wk} {i : Nat} {a : Wk} (h : cur[i]? = some a) : rowD wd ht xs b c st (cur.take (i + 1)) = putD wd ht xs b c (rowD wd ht xs b c st (cur.take i)) a := by
  unfold rowD
  rw [List.take_add_one, h, List.foldl_append]
  rfl
theorem toD_next {i : Nat} {c : List Wk} (h : (curL wd ht xs)[i]? = some c) : toD wd ht xs b (i + 1) = rowD wd ht xs b (i : Int) (toD wd ht xs b i) c := by
  rw [toD, List.getD_eq_getElem?_getD, h]
  rfl
structure DInv (wd ht : Int) (xs : List Int) (b : Bool) (st : List Wk × List Int) : Prop where
  l1 : st.1.length = (zTo xs xs.length).length
  l2 : st.2.length = (zTo xs xs.length).length
  at_ : ∀ (k : Nat) a', st.1[k]? = some a' → a' = zW ∨ ∃ (i : Nat) (c : List Wk) (a : Wk), (curL wd ht xs)[i]? = some c ∧ a ∈ c ∧ crossB wd ht xs a.nx a.ny = true ∧ overB a = b ∧ idxW wd xs a = k ∧ a' = stepW wd ht xs a ∧ st.2[k]? = some (i : Int)
/-- entry k is set -/
def SetD (k : Nat) (st : List Wk × List Int) : Prop := ∃ a', st.1[k]? = some a' ∧ a' ≠ zW
theorem dinv_put (hs : Sz wd ht) (hl : (xs.length : Int) = innerN wd ht) {st : List Wk × List Int} (h : DInv wd ht xs b st) {i : Nat} {c : List Wk} {a : Wk} (hc : (curL wd ht xs)[i]? = some c) (ha : a ∈ c) (hok : OkW wd ht a) :
    DInv wd ht xs b (putD wd ht xs b i st a) := by
  unfold putD
  by_cases hx : crossB wd ht xs a.nx a.ny = true ∧ overB a = b
  · rw [if_pos hx]
    have hk := idx_lt hs hl hok hx.1
    refine ⟨by rw [List.length_set]; exact h.l1, by rw [List.length_set]; exact h.l2, fun k a' e => ?_⟩
    by_cases hkk : idxW wd xs a = k
    · subst hkk
      rw [List.getElem?_set_self (by rw [h.l1]; exact hk)] at e
      injection e with e
      refine .inr ⟨i, c, a, hc, ha, hx.1, hx.2, rfl, by rw [← e, step_cross hx.1], ?_⟩
      rw [List.getElem?_set_self (by rw [h.l2]; exact hk)]
    · rw [List.getElem?_set_ne hkk] at e ⊢
      exact h.at_ k a' e
  · rw [if_neg hx]
    exact h
theorem setD_put {st : List Wk × List Int} {k : Nat} (h : SetD k st) {c : Int} {a : Wk} (hok : OkW wd ht a) : SetD k (putD wd ht xs b c st a) := by
  obtain ⟨a', e, hne⟩ := h
  unfold putD
  split
  · by_cases hkk : idxW wd xs a = k
    · refine ⟨⟨a.nx, a.ny, a.dx, a.dy⟩, ?_, fun e2 => ?_⟩
      · rw [hkk]; exact List.getElem?_set_self (List.getElem?_eq_some_iff.1 e).1
      · have := congrArg Wk.dx e2
        have h1 := hok.1
        simp only [zW] at this
        omega
    · exact ⟨a', by rw [List.getElem?_set_ne hkk]; exact e, hne⟩
  · exact ⟨a', e, hne⟩
theorem setD_new {st : List Wk × List Int} {c : Int} {a : Wk} (hok : OkW wd ht a) (hx : crossB wd ht xs a.nx a.ny = true) (hb : overB a = b) (hk : idxW wd xs a < st.1.length) : SetD (idxW wd xs a) (putD wd ht xs b c st a) := by
  unfold putD
  rw [if_pos ⟨hx, hb⟩]
  refine ⟨⟨a.nx, a.ny, a.dx, a.dy⟩, List.getElem?_set_self hk, fun e2 => ?_⟩
  have := congrArg Wk.dx e2
  have h1 := hok.1
  simp only [zW] at this
  omega
theorem cur_ok (hs : Sz wd ht) {i : Nat} {c : List Wk} (hc : (curL wd ht xs)[i]? = some c) {a : Wk} (ha : a ∈ c) : OkW wd ht a := by
  obtain ⟨j, hj, rfl, _⟩ := (trInv_all (xs := xs) hs).start i c hc
  exact orbW_ok (walkK_ok hs hj).1 ha
theorem dinv_row (hs : Sz wd ht) (hl : (xs.length : Int) = innerN wd ht) {i : Nat} {c : List Wk} (hc : (curL wd ht xs)[i]? = some c) : ∀ (cur : List Wk) (st : List Wk × List Int), (∀ a ∈ cur, a ∈ c) → DInv wd ht xs b st →
    DInv wd ht xs b (rowD wd ht xs b i st cur) ∧ (∀ k, SetD k st → SetD k (rowD wd ht xs b i st cur)) ∧ ∀ a ∈ cur, crossB wd ht xs a.nx a.ny = true → overB a = b → SetD (idxW wd xs a) (rowD wd ht xs b i st cur)
  | [], st, _, h => ⟨h, fun _ h => h, fun a ha => by cases ha⟩
  | x :: t, st, hm, h => by
    have hxc := hm x (by simp)
    have hok := cur_ok hs hc hxc
    have hp := dinv_put hs hl h hc hxc hok
    obtain ⟨g1, g2, g3⟩ := dinv_row hs hl hc t _ (fun a ha => hm a (by simp [ha])) hp
    refine ⟨g1, fun k hk => g2 k (setD_put hk hok), fun a ha hx hb => ?_⟩
    rcases List.mem_cons.1 ha with rfl | ha
    · exact g2 _ (setD_new hok hx hb (by rw [h.l1]; exact idx_lt hs hl hok hx))
    · exact g3 a ha hx hb
theorem dinv_to (hs : Sz wd ht) (hl : (xs.length : Int) = innerN wd ht) : ∀ i, i ≤ (curL wd ht xs).length → DInv wd ht xs b (toD wd ht xs b i) ∧ ∀ (j : Nat) c a, j < i → (curL wd ht xs)[j]? = some c → a ∈ c → crossB wd ht xs a.nx a.ny = true → overB a = b → SetD (idxW wd xs a) (toD wd ht xs b i)
  | 0, _ => ⟨⟨by simp [toD], by simp [toD], fun k a' e => by
      rw [toD] at e
      simp only [List.getElem?_replicate] at e
      split at e
      · injection e with e; exact .inl e.symm
      · cases e⟩, fun j c a hj => by omega⟩
  | i + 1, hi => by
    obtain ⟨h1, h2⟩ := dinv_to hs hl i (by omega)
    have hc : (curL wd ht xs)[i]? = some (curL wd ht xs)[i] := List.getElem?_eq_getElem (by omega)
    rw [toD_next hc]
    obtain ⟨g1, g2, g3⟩ := dinv_row (b := b) hs hl hc _ _ (fun a ha => ha) h1
    refine ⟨g1, fun j c a hj hjc ha hx hb => ?_⟩
    by_cases e : j = i
    · subst e
      rw [hc] at hjc
      injection hjc with hjc
      subst hjc
      exact g3 a ha hx hb
    · exact g2 _ (h2 j c a (by omega) hjc ha hx hb)
/-- each crossing is passed over and under -/
theorem passed (hs : Sz wd ht) (hl : (xs.length : Int) = innerN wd ht) {k : Nat} (hk : k < (zTo xs xs.length).length) : ∃ (i : Nat) (c : List Wk) (a : Wk), (curL wd ht xs)[i]? = some c ∧ a ∈ c ∧ crossB wd ht xs a.nx a.ny = true ∧ overB a = b ∧ idxW wd xs a = k := by
  obtain ⟨j, hj, h0, hjk⟩ := zTo_find hk
  obtain ⟨x, y, hp, he, hn⟩ := point_of hs (j := j) (by omega)
  have hkind : kindI wd ht xs x y = 0 := by
    unfold kindI
    rw [if_neg he, hn]
    exact h0
  have hcr : crossB wd ht xs x y = true := cross_iff.2 ⟨he, hkind⟩
  obtain ⟨s, hsv⟩ : ∃ s : Int, s = if b then slopeI x else - slopeI x := ⟨_, rfl⟩
  have hs1 : s = 1 ∨ s = -1 := by
    rw [hsv]
    have := slope_pm x
    split <;> omega
  have hov : ∀ d : Int, d = s → (slopeI x == d) = b := fun d hd => by
    rw [hd, hsv]
    have := slope_pm x
    cases b
    · simp; omega
    · simp
  have hok : OkW wd ht ⟨x - 1, y - s, 1, s⟩ := by
    have hp' := hp
    unfold OnP at hp
    unfold Edge at he
    refine ⟨.inl rfl, hs1, ?_, ?_⟩
    · unfold OnP
      simp only []
      omega
    · show OnP wd ht (x - 1 + 1) (y - s + s)
      rw [show x - 1 + 1 = x by omega, show y - s + s = y by omega]
      exact hp'
  have hnx : (⟨x - 1, y - s, 1, s⟩ : Wk).nx = x := by show x - 1 + 1 = x; omega
  have hny : (⟨x - 1, y - s, 1, s⟩ : Wk).ny = y := by show y - s + s = y; omega
  have hT := trInv_all (xs := xs) hs
  obtain ⟨g1, g2⟩ := segN_int hs hok
  obtain ⟨v, hv⟩ : ∃ v, (ownL wd ht xs)[segN ht ⟨x - 1, y - s, 1, s⟩]? = some v := ⟨_, List.getElem?_eq_getElem (by have := hT.len; simp only at this; rw [this]; exact g2)⟩
  obtain ⟨c, hc, hm⟩ := hT.cov _ v hok hv (hT.pos _ v g2 hv)
  have idx : ∀ a : Wk, a.nx = x → a.ny = y → idxW wd xs a = k := fun a e1 e2 => by
    unfold idxW
    rw [e1, e2, hn]
    exact hjk
  rcases hm with hm | hm
  · exact ⟨v.toNat, c, _, hc, hm, by rw [hnx, hny]; exact hcr, by show (slopeI (Wk.nx _) == (1 : Int) * s) = b; rw [hnx]; exact hov _ (by omega), idx _ hnx hny⟩
  · obtain ⟨j', hj', hcc, _⟩ := hT.start _ c hc
    rw [hcc] at hm
    obtain ⟨a, ha, hst⟩ := orbW_prev hs (walkK_ok hs hj').1 hm
    rw [← hcc] at ha
    have hax : a.nx = x := by
      have := congrArg Wk.x hst
      show (stepW wd ht xs a).x = x
      rw [this]
      exact hnx
    have hay : a.ny = y := by
      have := congrArg Wk.y hst
      show (stepW wd ht xs a).y = y
      rw [this]
      exact hny
    have hac : crossB wd ht xs a.nx a.ny = true := by rw [hax, hay]; exact hcr
    rw [step_cross hac] at hst
    have hdx := congrArg Wk.dx hst
    have hdy := congrArg Wk.dy hst
    simp only [backW] at hdx hdy
    refine ⟨v.toNat, c, a, hc, ha, hac, ?_, idx a hax hay⟩
    show (slopeI a.nx == a.dx * a.dy) = b
    rw [hax, hdx, hdy]
    exact hov _ (by omega)
theorem dir_len (hs : Sz wd ht) (hl : (xs.length : Int) = innerN wd ht) : (dirL wd ht xs b).length = (zTo xs xs.length).length ∧ (dirC wd ht xs b).length = (zTo xs xs.length).length :=
  ⟨((dinv_to hs hl _ (Nat.le_refl _)).1).l1, ((dinv_to hs hl _ (Nat.le_refl _)).1).l2⟩
theorem dir_spec (hs : Sz wd ht) (hl : (xs.length : Int) = innerN wd ht) {k : Nat} (hk : k < (zTo xs xs.length).length) :
    ∃ (i : Nat) (c : List Wk) (a : Wk), (curL wd ht xs)[i]? = some c ∧ a ∈ c ∧ OkW wd ht a ∧ crossB wd ht xs a.nx a.ny = true ∧ overB a = b ∧ idxW wd xs a = k ∧ (dirL wd ht xs b)[k]? = some (stepW wd ht xs a) ∧ (dirC wd ht xs b)[k]? = some (i : Int) := by
  obtain ⟨h1, h2⟩ := dinv_to (b := b) hs hl _ (Nat.le_refl (curL wd ht xs).length)
  obtain ⟨i, c, a, hc, ha, hx, hb, hi⟩ := passed (b := b) hs hl hk
  have hil : i < (curL wd ht xs).length := (List.getElem?_eq_some_iff.1 hc).1
  obtain ⟨a', e, hne⟩ := h2 i c a hil hc ha hx hb
  rw [hi] at e
  rcases h1.at_ k a' e with h3 | ⟨i', c', a2, hc', ha', hx', hb', hi', he', ho'⟩
  · exact absurd h3 hne
  · exact ⟨i', c', a2, hc', ha', cur_ok hs hc' ha', hx', hb', hi', by rw [← he']; exact e, ho'⟩
/-- the curve of the segment on which it goes on -/
theorem dir_own (hs : Sz wd ht) (hl : (xs.length : Int) = innerN wd ht) {k : Nat} (hk : k < (zTo xs xs.length).length) :
    ∃ (a : Wk) (i : Nat), (dirL wd ht xs b)[k]? = some a ∧ (dirC wd ht xs b)[k]? = some (i : Int) ∧ i < (curL wd ht xs).length ∧ OkW wd ht a ∧ (ownL wd ht xs)[segN ht a]? = some (i : Int) := by
  obtain ⟨i, c, a, hc, ha, hok, hx, hb, hi, h1, h2⟩ := dir_spec (b := b) hs hl hk
  have hT := trInv_all (xs := xs) hs
  obtain ⟨j', hj', hcc, _⟩ := hT.start _ c hc
  refine ⟨_, i, h1, h2, (List.getElem?_eq_some_iff.1 hc).1, okW_step hok, hT.mem i c hc _ ?_⟩
  rw [hcc] at ha ⊢
  exact orbW_next hs (walkK_ok hs hj').1 ha
end
/-- the sign of two directions -/
def sgW (o u : Wk) : Int := if 0 < o.dx * u.dy - o.dy * u.dx then 1 else -1
/-- the signs of all crossings -/
noncomputable def sgL (wd ht : Int) (xs : List Int) : List Int := List.zipWith sgW (dirL wd ht xs true) (dirL wd ht xs false)
section
variable {wd ht : Int} {xs : List Int}
theorem sgL_len (hs : Sz wd ht) (hl : (xs.length : Int) = innerN wd ht) : (sgL wd ht xs).length = (zTo xs xs.length).length := by
  unfold sgL
  rw [List.length_zipWith, (dir_len hs hl).1, (dir_len hs hl).1, Nat.min_self]
theorem sgL_at {k : Nat} {o u : Wk} (ho : (dirL wd ht xs true)[k]? = some o) (hu : (dirL wd ht xs false)[k]? = some u) : (sgL wd ht xs)[k]? = some (sgW o u) := by
  unfold sgL
  rw [List.getElem?_zipWith, ho, hu]
theorem sgL_next {k : Nat} {o u : Wk} (ho : (dirL wd ht xs true)[k]? = some o) (hu : (dirL wd ht xs false)[k]? = some u) : (sgL wd ht xs).take (k + 1) = (sgL wd ht xs).take k ++ [sgW o u] := by
  rw [List.take_add_one, sgL_at ho hu]
  rfl
theorem sgL_pm {s : Int} (h : s ∈ sgL wd ht xs) : s = 1 ∨ s = -1 := by
  unfold sgL at h
  obtain ⟨k, hk⟩ := List.mem_iff_getElem?.1 h
  rw [List.getElem?_zipWith] at hk
  split at hk
  · injection hk with hk
    rw [← hk]
    unfold sgW
    split <;> simp
  · cases hk
theorem prod_pm {a b : Int} (ha : a = 1 ∨ a = -1) (hb : b = 1 ∨ b = -1) : -1 ≤ a * b ∧ a * b ≤ 1 := by
  rcases ha with rfl | rfl <;> rcases hb with rfl | rfl <;> decide
end
end Go.Proofs.Ytnjojnnapdhijaa
