/-
  The walk on a panel, in plain Lean: steps, segments, and that every walker comes back to where it began, along segments all different. Conditions: a valid panel's sides.
-/
import Derived.Test.YtnjojnnapdhijaaMem
namespace Go.Proofs.Ytnjojnnapdhijaa
set_option linter.unusedVariables false

/-- a walker: where it is, and its direction -/
structure Wk where
  x : Int
  y : Int
  dx : Int
  dy : Int
deriving DecidableEq
def Wk.nx (a : Wk) : Int := a.x + a.dx
def Wk.ny (a : Wk) : Int := a.y + a.dy
/-- the number of an inner point -/
def numI (wd x y : Int) : Int := (y - 1) * wd - y / 2 + (x - 1) / 2
def Edge (wd ht x y : Int) : Prop := x = 0 ∨ x = 2 * wd ∨ y = 0 ∨ y = 2 * ht
instance (wd ht x y : Int) : Decidable (Edge wd ht x y) := by unfold Edge; infer_instance
def kindI (wd ht : Int) (xs : List Int) (x y : Int) : Int := if Edge wd ht x y then 0 else xs.getD (numI wd x y).toNat 0
def FlipX (wd ht : Int) (xs : List Int) (x y : Int) : Prop := x = 0 ∨ x = 2 * wd ∨ kindI wd ht xs x y = 1
def FlipY (wd ht : Int) (xs : List Int) (x y : Int) : Prop := y = 0 ∨ y = 2 * ht ∨ kindI wd ht xs x y = 2
instance (wd ht : Int) (xs : List Int) (x y : Int) : Decidable (FlipX wd ht xs x y) := by unfold FlipX; infer_instance
instance (wd ht : Int) (xs : List Int) (x y : Int) : Decidable (FlipY wd ht xs x y) := by unfold FlipY; infer_instance
def stepW (wd ht : Int) (xs : List Int) (a : Wk) : Wk :=
  ⟨a.nx, a.ny, if FlipX wd ht xs a.nx a.ny then -a.dx else a.dx, if FlipY wd ht xs a.nx a.ny then -a.dy else a.dy⟩
def backW (a : Wk) : Wk := ⟨a.nx, a.ny, -a.dx, -a.dy⟩
def OnP (wd ht x y : Int) : Prop := 0 ≤ x ∧ x ≤ 2 * wd ∧ 0 ≤ y ∧ y ≤ 2 * ht ∧ (x + y) % 2 = 1
def OkW (wd ht : Int) (a : Wk) : Prop := (a.dx = 1 ∨ a.dx = -1) ∧ (a.dy = 1 ∨ a.dy = -1) ∧ OnP wd ht a.x a.y ∧ OnP wd ht a.nx a.ny
/-- a valid panel's sides -/
def Sz (wd ht : Int) : Prop := 1 ≤ wd ∧ wd ≤ 8 ∧ 1 ≤ ht ∧ ht ≤ 8
theorem eight {n : Int} (h : 1 ≤ n) (h2 : n ≤ 8) : n = 1 ∨ n = 2 ∨ n = 3 ∨ n = 4 ∨ n = 5 ∨ n = 6 ∨ n = 7 ∨ n = 8 := by omega

section
variable {wd ht : Int} {xs : List Int}
theorem flip_facts {x y : Int} (h : OnP wd ht x y) : (¬ FlipX wd ht xs x y → 0 < x ∧ x < 2 * wd) ∧ (¬ FlipY wd ht xs x y → 0 < y ∧ y < 2 * ht) ∧ ¬ (FlipX wd ht xs x y ∧ FlipY wd ht xs x y) := by
  unfold OnP at h
  refine ⟨fun h2 => ?_, fun h2 => ?_, fun ⟨h2, h3⟩ => ?_⟩
  · unfold FlipX at h2; omega
  · unfold FlipY at h2; omega
  · unfold FlipX at h2
    unfold FlipY at h3
    by_cases c : Edge wd ht x y
    · have k0 : kindI wd ht xs x y = 0 := by unfold kindI; rw [if_pos c]
      omega
    · unfold Edge at c
      omega
theorem okW_step {a : Wk} (h : OkW wd ht a) : OkW wd ht (stepW wd ht xs a) := by
  obtain ⟨h1, h2, h3, h4⟩ := h
  obtain ⟨f1, f2, _⟩ := flip_facts (xs := xs) h4
  have h5 := h4
  unfold OnP at h3 h4
  have e1 : a.nx = a.x + a.dx := rfl
  have e2 : a.ny = a.y + a.dy := rfl
  refine ⟨?_, ?_, h5, ?_⟩
  · show (if FlipX wd ht xs a.nx a.ny then -a.dx else a.dx) = 1 ∨ (if FlipX wd ht xs a.nx a.ny then -a.dx else a.dx) = -1
    split <;> omega
  · show (if FlipY wd ht xs a.nx a.ny then -a.dy else a.dy) = 1 ∨ (if FlipY wd ht xs a.nx a.ny then -a.dy else a.dy) = -1
    split <;> omega
  · show OnP wd ht (a.nx + (if FlipX wd ht xs a.nx a.ny then -a.dx else a.dx)) (a.ny + (if FlipY wd ht xs a.nx a.ny then -a.dy else a.dy))
    unfold OnP
    by_cases c1 : FlipX wd ht xs a.nx a.ny
    · by_cases c2 : FlipY wd ht xs a.nx a.ny
      · rw [if_pos c1, if_pos c2]; omega
      · have := f2 c2
        rw [if_pos c1, if_neg c2]; omega
    · have := f1 c1
      by_cases c2 : FlipY wd ht xs a.nx a.ny
      · rw [if_neg c1, if_pos c2]; omega
      · have := f2 c2
        rw [if_neg c1, if_neg c2]; omega
theorem back_back (a : Wk) : backW (backW a) = a := by
  cases a
  simp only [backW, Wk.nx, Wk.ny, Wk.mk.injEq]
  omega
theorem okW_back {a : Wk} (h : OkW wd ht a) : OkW wd ht (backW a) := by
  obtain ⟨h1, h2, h3, h4⟩ := h
  unfold OkW backW
  simp only [Wk.nx, Wk.ny] at *
  refine ⟨by omega, by omega, h4, ?_⟩
  rw [show a.x + a.dx + -a.dx = a.x by omega, show a.y + a.dy + -a.dy = a.y by omega]
  exact h3
theorem step_back_step (a : Wk) : stepW wd ht xs (backW (stepW wd ht xs a)) = backW a := by
  have e1 : (backW (stepW wd ht xs a)).nx = a.nx := by simp only [backW, stepW, Wk.nx, Wk.ny]; omega
  have e2 : (backW (stepW wd ht xs a)).ny = a.ny := by simp only [backW, stepW, Wk.nx, Wk.ny]; omega
  rw [stepW, e1, e2]
  simp only [backW, stepW, Wk.mk.injEq, true_and]
  constructor <;> split <;> omega
theorem step_inj {a b : Wk} (h : stepW wd ht xs a = stepW wd ht xs b) : a = b := by
  have h1 := step_back_step (wd := wd) (ht := ht) (xs := xs) a
  rw [h, step_back_step] at h1
  rw [← back_back a, ← h1, back_back]
theorem step_ne_back {a : Wk} (h : OkW wd ht a) : stepW wd ht xs a ≠ backW a := fun e => by
  obtain ⟨h1, h2, h3, h4⟩ := h
  obtain ⟨_, _, f3⟩ := flip_facts (xs := xs) h4
  simp only [backW, stepW, Wk.mk.injEq, true_and] at e
  refine f3 ⟨?_, ?_⟩
  · by_cases c : FlipX wd ht xs a.nx a.ny
    · exact c
    · rw [if_neg c] at e; omega
  · by_cases c : FlipY wd ht xs a.nx a.ny
    · exact c
    · have := e.2; rw [if_neg c] at this; omega
theorem back_ne {a : Wk} (h : OkW wd ht a) : a ≠ backW a := fun e => by
  obtain ⟨h1, h2, h3, h4⟩ := h
  have := congrArg Wk.x e
  simp only [backW, Wk.nx] at this
  omega
end

/-- the segment's lower corner -/
def loX (a : Wk) : Int := if a.dx = 1 then a.x else a.nx
def loY (a : Wk) : Int := if a.dy = 1 then a.y else a.ny
def segW (ht : Int) (a : Wk) : Int := loX a * (2 * ht) + loY a
section
variable {wd ht : Int} {xs : List Int}
theorem lo_facts {a : Wk} (h : OkW wd ht a) : 0 ≤ loX a ∧ loX a ≤ 2 * wd - 1 ∧ 0 ≤ loY a ∧ loY a ≤ 2 * ht - 1 := by
  obtain ⟨h1, h2, h3, h4⟩ := h
  unfold OnP at h3 h4
  unfold loX loY
  simp only [Wk.nx, Wk.ny] at *
  split <;> split <;> omega
theorem seg_range (hs : Sz wd ht) {a : Wk} (h : OkW wd ht a) : 0 ≤ segW ht a ∧ segW ht a < 4 * wd * ht := by
  obtain ⟨l1, l2, l3, l4⟩ := lo_facts h
  obtain ⟨s1, s2, s3, s4⟩ := hs
  unfold segW
  rcases eight s3 s4 with rfl | rfl | rfl | rfl | rfl | rfl | rfl | rfl <;> omega
theorem lo_back {a : Wk} (h : OkW wd ht a) : loX (backW a) = loX a ∧ loY (backW a) = loY a := by
  obtain ⟨h1, h2, h3, h4⟩ := h
  unfold loX loY
  simp only [backW, Wk.nx, Wk.ny]
  rcases h1 with h1 | h1 <;> rcases h2 with h2 | h2 <;> simp [h1, h2] <;> omega
theorem seg_back {a : Wk} (h : OkW wd ht a) : segW ht (backW a) = segW ht a := by
  unfold segW
  rw [(lo_back h).1, (lo_back h).2]
theorem seg_inj (hs : Sz wd ht) {a b : Wk} (ha : OkW wd ht a) (hb : OkW wd ht b) (h : segW ht a = segW ht b) : a = b ∨ a = backW b := by
  obtain ⟨l1, l2, l3, l4⟩ := lo_facts ha
  obtain ⟨k1, k2, k3, k4⟩ := lo_facts hb
  have he : loX a = loX b ∧ loY a = loY b := by
    obtain ⟨s1, s2, s3, s4⟩ := hs
    unfold segW at h
    rcases eight s3 s4 with rfl | rfl | rfl | rfl | rfl | rfl | rfl | rfl <;> omega
  obtain ⟨e1, e2⟩ := he
  clear h l1 l2 l3 l4 k1 k2 k3 k4
  obtain ⟨a1, a2, a3, a4⟩ := ha
  obtain ⟨b1, b2, b3, b4⟩ := hb
  unfold OnP at a3 b3
  have a5 := a3.2.2.2.2
  have b5 := b3.2.2.2.2
  clear a3 b3 a4 b4
  cases a
  cases b
  unfold loX loY at *
  simp only [backW, Wk.nx, Wk.ny, Wk.mk.injEq] at *
  rcases a1 with rfl | rfl <;> rcases a2 with rfl | rfl <;> rcases b1 with rfl | rfl <;> rcases b2 with rfl | rfl <;> simp at e1 e2 <;> omega
end

/-- some steps -/
def itW (wd ht : Int) (xs : List Int) : Nat → Wk → Wk
  | 0, a => a
  | n + 1, a => stepW wd ht xs (itW wd ht xs n a)
section
variable {wd ht : Int} {xs : List Int}
theorem okW_it {a : Wk} (h : OkW wd ht a) : ∀ n, OkW wd ht (itW wd ht xs n a)
  | 0 => h
  | n + 1 => okW_step (okW_it h n)
theorem it_add (a : Wk) (m : Nat) : ∀ n, itW wd ht xs (m + n) a = itW wd ht xs n (itW wd ht xs m a)
  | 0 => rfl
  | n + 1 => by show stepW wd ht xs (itW wd ht xs (m + n) a) = _; rw [it_add a m n]; rfl
theorem it_cancel {a b : Wk} : ∀ n, itW wd ht xs n a = itW wd ht xs n b → a = b
  | 0, h => h
  | n + 1, h => it_cancel n (step_inj h)
theorem no_back {a : Wk} (h : OkW wd ht a) : ∀ d i, itW wd ht xs (i + d) a ≠ backW (itW wd ht xs i a)
  | 0, i => back_ne (okW_it h i)
  | 1, i => step_ne_back (okW_it h i)
  | d + 2, i => fun e => by
    have h1 : backW (itW wd ht xs (i + d + 2) a) = itW wd ht xs i a := by rw [show i + d + 2 = i + (d + 2) by omega, e, back_back]
    have h2 := step_back_step (wd := wd) (ht := ht) (xs := xs) (itW wd ht xs (i + d + 1) a)
    have h3 : stepW wd ht xs (itW wd ht xs (i + d + 1) a) = itW wd ht xs (i + d + 2) a := rfl
    rw [h3, h1] at h2
    have h4 : itW wd ht xs (i + 1) a = backW (itW wd ht xs (i + d + 1) a) := h2
    refine no_back h d (i + 1) ?_
    rw [h4, back_back, show i + 1 + d = i + d + 1 by omega]
theorem seg_distinct (hs : Sz wd ht) {a : Wk} (h : OkW wd ht a) {n i j : Nat} (hn : ∀ k, 0 < k → k < n → itW wd ht xs k a ≠ a) (hij : i < j) (hj : j < n) : segW ht (itW wd ht xs i a) ≠ segW ht (itW wd ht xs j a) := fun e => by
  rcases seg_inj hs (okW_it h j) (okW_it h i) e.symm with e1 | e1
  · refine hn (j - i) (by omega) (by omega) (it_cancel (wd := wd) (ht := ht) (xs := xs) i ?_)
    rw [← it_add, show j - i + i = j by omega]
    exact e1
  · refine no_back (xs := xs) h (j - i) i ?_
    rw [show i + (j - i) = j by omega]
    exact e1
end
theorem pigeon : ∀ (N : Nat) (f : Nat → Nat), (∀ i, i ≤ N → f i < N) → ∃ i j, i < j ∧ j ≤ N ∧ f i = f j
  | 0, f, h => absurd (h 0 (Nat.le_refl _)) (by omega)
  | N + 1, f, h => by
    by_cases hc : ∃ i, i ≤ N ∧ f i = f (N + 1)
    · obtain ⟨i, hi, e⟩ := hc
      exact ⟨i, N + 1, by omega, Nat.le_refl _, e⟩
    · have hc' : ∀ i, i ≤ N → f i ≠ f (N + 1) := fun i hi e => hc ⟨i, hi, e⟩
      have hl := h (N + 1) (Nat.le_refl _)
      obtain ⟨i, j, hij, hj, e⟩ := pigeon N (fun i => if f (N + 1) < f i then f i - 1 else f i) (fun i hi => by
        have := h i (by omega)
        have := hc' i hi
        show (if f (N + 1) < f i then f i - 1 else f i) < N
        split <;> omega)
      have h1 := hc' i (by omega)
      have h2 := hc' j hj
      refine ⟨i, j, hij, by omega, ?_⟩
      split at e <;> split at e <;> omega
theorem least_of {p : Nat → Prop} : ∀ n, p n → ∃ m, p m ∧ m ≤ n ∧ ∀ k, k < m → ¬ p k := by
  intro n
  induction n using Nat.strongRecOn with
  | ind n ih =>
    intro hp
    by_cases hc : ∃ k, k < n ∧ p k
    · obtain ⟨k, hk, hpk⟩ := hc
      obtain ⟨m, h1, h2, h3⟩ := ih k hk hpk
      exact ⟨m, h1, by omega, h3⟩
    · exact ⟨n, hp, Nat.le_refl _, fun k hk hpk => hc ⟨k, hk, hpk⟩⟩
/-- the number of segments -/
def nSeg (wd ht : Int) : Nat := (4 * wd * ht).toNat
theorem nSeg_int {wd ht : Int} (hs : Sz wd ht) : (nSeg wd ht : Int) = 4 * wd * ht ∧ nSeg wd ht ≤ 256 ∧ 4 ≤ nSeg wd ht := by
  obtain ⟨s1, s2, s3, s4⟩ := hs
  unfold nSeg
  rcases eight s3 s4 with rfl | rfl | rfl | rfl | rfl | rfl | rfl | rfl <;> omega
def segN (ht : Int) (a : Wk) : Nat := (segW ht a).toNat
section
variable {wd ht : Int} {xs : List Int}
theorem segN_int (hs : Sz wd ht) {a : Wk} (h : OkW wd ht a) : (segN ht a : Int) = segW ht a ∧ segN ht a < nSeg wd ht := by
  have h1 := seg_range hs h
  have h2 := nSeg_int hs
  unfold segN
  omega
theorem comes_back (hs : Sz wd ht) {a : Wk} (h : OkW wd ht a) : ∃ n, (0 < n ∧ itW wd ht xs n a = a) ∧ n ≤ nSeg wd ht ∧ ∀ k, k < n → ¬ (0 < k ∧ itW wd ht xs k a = a) := by
  have hex : ∃ n, n ≤ nSeg wd ht ∧ 0 < n ∧ itW wd ht xs n a = a := by
    obtain ⟨i, j, hij, hj, e⟩ := pigeon (nSeg wd ht) (fun i => segN ht (itW wd ht xs i a)) (fun i _ => (segN_int hs (okW_it h i)).2)
    have e' : segW ht (itW wd ht xs i a) = segW ht (itW wd ht xs j a) := by
      have h1 := (segN_int hs (okW_it (xs := xs) h i)).1
      have h2 := (segN_int hs (okW_it (xs := xs) h j)).1
      rw [← h1, ← h2]
      exact congrArg _ e
    by_cases hc : ∃ k, k ≤ nSeg wd ht ∧ 0 < k ∧ itW wd ht xs k a = a
    · exact hc
    · exact absurd e' (seg_distinct hs h (n := nSeg wd ht + 1) (fun k h1 h2 h3 => hc ⟨k, by omega, h1, h3⟩) hij (by omega))
  obtain ⟨n, hn, h1⟩ := hex
  obtain ⟨m, h2, h3, h4⟩ := least_of (p := fun k => 0 < k ∧ itW wd ht xs k a = a) n h1
  exact ⟨m, h2, by omega, h4⟩
end
open Classical in
/-- how many steps it takes to come back -/
noncomputable def perW (wd ht : Int) (xs : List Int) (a : Wk) : Nat :=
  if h : ∃ n, (0 < n ∧ itW wd ht xs n a = a) ∧ n ≤ nSeg wd ht ∧ ∀ k, k < n → ¬ (0 < k ∧ itW wd ht xs k a = a) then Classical.choose h else 0
/-- the curve of a walker -/
noncomputable def orbW (wd ht : Int) (xs : List Int) (a : Wk) : List Wk := (List.range (perW wd ht xs a)).map fun i => itW wd ht xs i a
section
variable {wd ht : Int} {xs : List Int}
theorem per_spec (hs : Sz wd ht) {a : Wk} (h : OkW wd ht a) : 0 < perW wd ht xs a ∧ itW wd ht xs (perW wd ht xs a) a = a ∧ perW wd ht xs a ≤ nSeg wd ht ∧ ∀ k, 0 < k → k < perW wd ht xs a → itW wd ht xs k a ≠ a := by
  have hx := comes_back (xs := xs) hs h
  unfold perW
  rw [dif_pos hx]
  obtain ⟨⟨h1, h2⟩, h3, h4⟩ := Classical.choose_spec hx
  exact ⟨h1, h2, h3, fun k k1 k2 k3 => h4 k k2 ⟨k1, k3⟩⟩
theorem orbW_len (a : Wk) : (orbW wd ht xs a).length = perW wd ht xs a := by simp [orbW]
theorem orbW_at (a : Wk) {i : Nat} (h : i < perW wd ht xs a) : (orbW wd ht xs a)[i]? = some (itW wd ht xs i a) := by
  simp [orbW, h]
theorem orbW_mem {a x : Wk} : x ∈ orbW wd ht xs a ↔ ∃ i, i < perW wd ht xs a ∧ itW wd ht xs i a = x := by
  simp [orbW]
theorem orbW_ok {a : Wk} (h : OkW wd ht a) {x : Wk} (hx : x ∈ orbW wd ht xs a) : OkW wd ht x := by
  obtain ⟨i, _, rfl⟩ := orbW_mem.1 hx
  exact okW_it h i
/-- the next one of a curve's walkers is of the curve, and the one before -/
theorem orbW_next (hs : Sz wd ht) {a : Wk} (h : OkW wd ht a) {x : Wk} (hx : x ∈ orbW wd ht xs a) : stepW wd ht xs x ∈ orbW wd ht xs a := by
  obtain ⟨i, hi, rfl⟩ := orbW_mem.1 hx
  obtain ⟨p1, p2, p3, p4⟩ := per_spec (xs := xs) hs h
  by_cases hc : i + 1 < perW wd ht xs a
  · exact orbW_mem.2 ⟨i + 1, hc, rfl⟩
  · refine orbW_mem.2 ⟨0, p1, ?_⟩
    have e : i + 1 = perW wd ht xs a := by omega
    show a = itW wd ht xs (i + 1) a
    rw [e, p2]
theorem orbW_prev (hs : Sz wd ht) {a : Wk} (h : OkW wd ht a) {x : Wk} (hx : x ∈ orbW wd ht xs a) : ∃ y, y ∈ orbW wd ht xs a ∧ stepW wd ht xs y = x := by
  obtain ⟨i, hi, rfl⟩ := orbW_mem.1 hx
  obtain ⟨p1, p2, p3, p4⟩ := per_spec (xs := xs) hs h
  cases i with
  | zero =>
    refine ⟨itW wd ht xs (perW wd ht xs a - 1) a, orbW_mem.2 ⟨_, by omega, rfl⟩, ?_⟩
    show itW wd ht xs (perW wd ht xs a - 1 + 1) a = a
    rw [show perW wd ht xs a - 1 + 1 = perW wd ht xs a by omega, p2]
  | succ i => exact ⟨itW wd ht xs i a, orbW_mem.2 ⟨i, by omega, rfl⟩, rfl⟩
end
end Go.Proofs.Ytnjojnnapdhijaa
