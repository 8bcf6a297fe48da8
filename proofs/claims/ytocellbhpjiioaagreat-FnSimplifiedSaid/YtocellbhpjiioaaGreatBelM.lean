/-
  The walk on a panel, in plain Lean: steps, segments, and that every walker comes back to where it began, along segments all different. Conditions: a valid panel's sides.
  The curves of a panel, in plain Lean: which curve owns each segment, and what is known of it. Conditions: a valid panel's sides.
  A region that draws its order, whose callees may lay blocks, walked once. Conditions: none; nothing of the program is named here.
-/
import Derived.Test.YtocellbhpjiioaaGreatOpenM
import Derived.Test.YtocellbhpjiioaaGreatPolyOkM
import Derived.BigQuiet
namespace Go.Proofs.YtocellbhpjiioaaGreat
set_option linter.unusedVariables false

/-- a walker: where it is, and its direction -/
structure Wk where
  x : Int
  y : Int
  dx : Int
  dy : Int
deriving DecidableEq
def Wk.nx (a : Wk) : Int := a.x + a.dx
def Wk.ny (a : Wk) : Int := a.y + a.dy
/-- the number of an inner point -/
def numI (wd x y : Int) : Int := (y - 1) * wd - y / 2 + (x - 1) / 2
def Edge (wd ht x y : Int) : Prop := x = 0 ∨ x = 2 * wd ∨ y = 0 ∨ y = 2 * ht
instance (wd ht x y : Int) : Decidable (Edge wd ht x y) := by unfold Edge; infer_instance
def kindI (wd ht : Int) (xs : List Int) (x y : Int) : Int := if Edge wd ht x y then 0 else xs.getD (numI wd x y).toNat 0
def FlipX (wd ht : Int) (xs : List Int) (x y : Int) : Prop := x = 0 ∨ x = 2 * wd ∨ kindI wd ht xs x y = 1
def FlipY (wd ht : Int) (xs : List Int) (x y : Int) : Prop := y = 0 ∨ y = 2 * ht ∨ kindI wd ht xs x y = 2
instance (wd ht : Int) (xs : List Int) (x y : Int) : Decidable (FlipX wd ht xs x y) := by unfold FlipX; infer_instance
instance (wd ht : Int) (xs : List Int) (x y : Int) : Decidable (FlipY wd ht xs x y) := by unfold FlipY; infer_instance
def stepW (wd ht : Int) (xs : List Int) (a : Wk) : Wk :=
  ⟨a.nx, a.ny, if FlipX wd ht xs a.nx a.ny then -a.dx else a.dx, if FlipY wd ht xs a.nx a.ny then -a.dy else a.dy⟩
def backW (a : Wk) : Wk := ⟨a.nx, a.ny, -a.dx, -a.dy⟩
def OnP (wd ht x y : Int) : Prop := 0 ≤ x ∧ x ≤ 2 * wd ∧ 0 ≤ y ∧ y ≤ 2 * ht ∧ (x + y) % 2 = 1
def OkW (wd ht : Int) (a : Wk) : Prop := (a.dx = 1 ∨ a.dx = -1) ∧ (a.dy = 1 ∨ a.dy = -1) ∧ OnP wd ht a.x a.y ∧ OnP wd ht a.nx a.ny
/-- a valid panel's sides -/
def Sz (wd ht : Int) : Prop := 1 ≤ wd ∧ wd ≤ 8 ∧ 1 ≤ ht ∧ ht ≤ 8
theorem eight {n : Int} (h : 1 ≤ n) (h2 : n ≤ 8) : n = 1 ∨ n = 2 ∨ n = 3 ∨ n = 4 ∨ n = 5 ∨ n = 6 ∨ n = 7 ∨ n = 8 := by omega

section
variable {wd ht : Int} {xs : List Int}
theorem flip_facts {x y : Int} (h : OnP wd ht x y) : (¬ FlipX wd ht xs x y → 0 < x ∧ x < 2 * wd) ∧ (¬ FlipY wd ht xs x y → 0 < y ∧ y < 2 * ht) ∧ ¬ (FlipX wd ht xs x y ∧ FlipY wd ht xs x y) := by
  unfold OnP at h
  refine ⟨fun h2 => ?_, fun h2 => ?_, fun ⟨h2, h3⟩ => ?_⟩
  · unfold FlipX at h2; omega
  · unfold FlipY at h2; omega
  · unfold FlipX at h2
    unfold FlipY at h3
    by_cases c : Edge wd ht x y
    · have k0 : kindI wd ht xs x y = 0 := by unfold kindI; rw [if_pos c]
      omega
    · unfold Edge at c
      omega
theorem okW_step {a : Wk} (h : OkW wd ht a) : OkW wd ht (stepW wd ht xs a) := by
  obtain ⟨h1, h2, h3, h4⟩ := h
  obtain ⟨f1, f2, _⟩ := flip_facts (xs := xs) h4
  have h5 := h4
  unfold OnP at h3 h4
  have e1 : a.nx = a.x + a.dx := rfl
  have e2 : a.ny = a.y + a.dy := rfl
  refine ⟨?_, ?_, h5, ?_⟩
  · show (if FlipX wd ht xs a.nx a.ny then -a.dx else a.dx) = 1 ∨ (if FlipX wd ht xs a.nx a.ny then -a.dx else a.dx) = -1
    split <;> omega
  · show (if FlipY wd ht xs a.nx a.ny then -a.dy else a.dy) = 1 ∨ (if FlipY wd ht xs a.nx a.ny then -a.dy else a.dy) = -1
    split <;> omega
  · show OnP wd ht (a.nx + (if FlipX wd ht xs a.nx a.ny then -a.dx else a.dx)) (a.ny + (if FlipY wd ht xs a.nx a.ny then -a.dy else a.dy))
    unfold OnP
    by_cases c1 : FlipX wd ht xs a.nx a.ny
    · by_cases c2 : FlipY wd ht xs a.nx a.ny
      · rw [if_pos c1, if_pos c2]; omega
      · have := f2 c2
        rw [if_pos c1, if_neg c2]; omega
    · have := f1 c1
      by_cases c2 : FlipY wd ht xs a.nx a.ny
      · rw [if_neg c1, if_pos c2]; omega
      · have := f2 c2
        rw [if_neg c1, if_neg c2]; omega
theorem back_back (a : Wk) : backW (backW a) = a := by
  cases a
  simp only [backW, Wk.nx, Wk.ny, Wk.mk.injEq]
  omega
theorem okW_back {a : Wk} (h : OkW wd ht a) : OkW wd ht (backW a) := by
  obtain ⟨h1, h2, h3, h4⟩ := h
  unfold OkW backW
  simp only [Wk.nx, Wk.ny] at *
  refine ⟨by omega, by omega, h4, ?_⟩
  rw [show a.x + a.dx + -a.dx = a.x by omega, show a.y + a.dy + -a.dy = a.y by omega]
  exact h3
theorem step_back_step (a : Wk) : stepW wd ht xs (backW (stepW wd ht xs a)) = backW a := by
  have e1 : (backW (stepW wd ht xs a)).nx = a.nx := by simp only [backW, stepW, Wk.nx, Wk.ny]; omega
  have e2 : (backW (stepW wd ht xs a)).ny = a.ny := by simp only [backW, stepW, Wk.nx, Wk.ny]; omega
  rw [stepW, e1, e2]
  simp only [backW, stepW, Wk.mk.injEq, true_and]
  constructor <;> split <;> omega
theorem step_inj {a b : Wk} (h : stepW wd ht xs a = stepW wd ht xs b) : a = b := by
  have h1 := step_back_step (wd := wd) (ht := ht) (xs := xs) a
  rw [h, step_back_step] at h1
  rw [← back_back a, ← h1, back_back]
theorem step_ne_back {a : Wk} (h : OkW wd ht a) : stepW wd ht xs a ≠ backW a := fun e => by
  obtain ⟨h1, h2, h3, h4⟩ := h
  obtain ⟨_, _, f3⟩ := flip_facts (xs := xs) h4
  simp only [backW, stepW, Wk.mk.injEq, true_and] at e
  refine f3 ⟨?_, ?_⟩
  · by_cases c : FlipX wd ht xs a.nx a.ny
    · exact c
    · rw [if_neg c] at e; omega
  · by_cases c : FlipY wd ht xs a.nx a.ny
    · exact c
    · have := e.2; rw [if_neg c] at this; omega
theorem back_ne {a : Wk} (h : OkW wd ht a) : a ≠ backW a := fun e => by
  obtain ⟨h1, h2, h3, h4⟩ := h
  have := congrArg Wk.x e
  simp only [backW, Wk.nx] at this
  omega
end

/-- the segment's lower corner -/
def loX (a : Wk) : Int := if a.dx = 1 then a.x else a.nx
def loY (a : Wk) : Int := if a.dy = 1 then a.y else a.ny
def segW (ht : Int) (a : Wk) : Int := loX a * (2 * ht) + loY a
section
variable {wd ht : Int} {xs : List Int}
theorem lo_facts {a : Wk} (h : OkW wd ht a) : 0 ≤ loX a ∧ loX a ≤ 2 * wd - 1 ∧ 0 ≤ loY a ∧ loY a ≤ 2 * ht - 1 := by
  obtain ⟨h1, h2, h3, h4⟩ := h
  unfold OnP at h3 h4
  unfold loX loY
  simp only [Wk.nx, Wk.ny] at *
  split <;> split <;> omega
theorem seg_range (hs : Sz wd ht) {a : Wk} (h : OkW wd ht a) : 0 ≤ segW ht a ∧ segW ht a < 4 * wd * ht := by
  obtain ⟨l1, l2, l3, l4⟩ := lo_facts h
  obtain ⟨s1, s2, s3, s4⟩ := hs
  unfold segW
  rcases eight s3 s4 with rfl | rfl | rfl | rfl | rfl | rfl | rfl | rfl <;> omega
theorem lo_back {a : Wk} (h : OkW wd ht a) : loX (backW a) = loX a ∧ loY (backW a) = loY a := by
  obtain ⟨h1, h2, h3, h4⟩ := h
  unfold loX loY
  simp only [backW, Wk.nx, Wk.ny]
  rcases h1 with h1 | h1 <;> rcases h2 with h2 | h2 <;> simp [h1, h2] <;> omega
theorem seg_back {a : Wk} (h : OkW wd ht a) : segW ht (backW a) = segW ht a := by
  unfold segW
  rw [(lo_back h).1, (lo_back h).2]
theorem seg_inj (hs : Sz wd ht) {a b : Wk} (ha : OkW wd ht a) (hb : OkW wd ht b) (h : segW ht a = segW ht b) : a = b ∨ a = backW b := by
  obtain ⟨l1, l2, l3, l4⟩ := lo_facts ha
  obtain ⟨k1, k2, k3, k4⟩ := lo_facts hb
  have he : loX a = loX b ∧ loY a = loY b := by
    obtain ⟨s1, s2, s3, s4⟩ := hs
    unfold segW at h
    rcases eight s3 s4 with rfl | rfl | rfl | rfl | rfl | rfl | rfl | rfl <;> omega
  obtain ⟨e1, e2⟩ := he
  clear h l1 l2 l3 l4 k1 k2 k3 k4
  obtain ⟨a1, a2, a3, a4⟩ := ha
  obtain ⟨b1, b2, b3, b4⟩ := hb
  unfold OnP at a3 b3
  have a5 := a3.2.2.2.2
  have b5 := b3.2.2.2.2
  clear a3 b3 a4 b4
  cases a
  cases b
  unfold loX loY at *
  simp only [backW, Wk.nx, Wk.ny, Wk.mk.injEq] at *
  rcases a1 with rfl | rfl <;> rcases a2 with rfl | rfl <;> rcases b1 with rfl | rfl <;> rcases b2 with rfl | rfl <;> simp at e1 e2 <;> omega
end

/-- some steps -/
def itW (wd ht : Int) (xs : List Int) : Nat → Wk → Wk
  | 0, a => a
  | n + 1, a => stepW wd ht xs (itW wd ht xs n a)
section
variable {wd ht : Int} {xs : List Int}
theorem okW_it {a : Wk} (h : OkW wd ht a) : ∀ n, OkW wd ht (itW wd ht xs n a)
  | 0 => h
  | n + 1 => okW_step (okW_it h n)
theorem it_add (a : Wk) (m : Nat) : ∀ n, itW wd ht xs (m + n) a = itW wd ht xs n (itW wd ht xs m a)
  | 0 => rfl
  | n + 1 => by show stepW wd ht xs (itW wd ht xs (m + n) a) = _; rw [it_add a m n]; rfl
theorem it_cancel {a b : Wk} : ∀ n, itW wd ht xs n a = itW wd ht xs n b → a = b
  | 0, h => h
  | n + 1, h => it_cancel n (step_inj h)
theorem no_back {a : Wk} (h : OkW wd ht a) : ∀ d i, itW wd ht xs (i + d) a ≠ backW (itW wd ht xs i a)
  | 0, i => back_ne (okW_it h i)
  | 1, i => step_ne_back (okW_it h i)
  | d + 2, i => fun e => by
    have h1 : backW (itW wd ht xs (i + d + 2) a) = itW wd ht xs i a := by rw [show i + d + 2 = i + (d + 2) by omega, e, back_back]
    have h2 := step_back_step (wd := wd) (ht := ht) (xs := xs) (itW wd ht xs (i + d + 1) a)
    have h3 : stepW wd ht xs (itW wd ht xs (i + d + 1) a) = itW wd ht xs (i + d + 2) a := rfl
    rw [h3, h1] at h2
    have h4 : itW wd ht xs (i + 1) a = backW (itW wd ht xs (i + d + 1) a) := h2
    refine no_back h d (i + 1) ?_
    rw [h4, back_back, show i + 1 + d = i + d + 1 by omega]
theorem seg_distinct (hs : Sz wd ht) {a : Wk} (h : OkW wd ht a) {n i j : Nat} (hn : ∀ k, 0 < k → k < n → itW wd ht xs k a ≠ a) (hij : i < j) (hj : j < n) : segW ht (itW wd ht xs i a) ≠ segW ht (itW wd ht xs j a) := fun e => by
  rcases seg_inj hs (okW_it h j) (okW_it h i) e.symm with e1 | e1
  · refine hn (j - i) (by omega) (by omega) (it_cancel (wd := wd) (ht := ht) (xs := xs) i ?_)
    rw [← it_add, show j - i + i = j by omega]
    exact e1
  · refine no_back (xs := xs) h (j - i) i ?_
    rw [show i + (j - i) = j by omega]
    exact e1
end
theorem pigeon : ∀ (N : Nat) (f : Nat → Nat), (∀ i, i ≤ N → f i < N) → ∃ i j, i < j ∧ j ≤ N ∧ f i = f j
  | 0, f, h => absurd (h 0 (Nat.le_refl _)) (by omega)
  | N + 1, f, h => by
    by_cases hc : ∃ i, i ≤ N ∧ f i = f (N + 1)
    · obtain ⟨i, hi, e⟩ := hc
      exact ⟨i, N + 1, by omega, Nat.le_refl _, e⟩
    · have hc' : ∀ i, i ≤ N → f i ≠ f (N + 1) := fun i hi e => hc ⟨i, hi, e⟩
      have hl := h (N + 1) (Nat.le_refl _)
      obtain ⟨i, j, hij, hj, e⟩ := pigeon N (fun i => if f (N + 1) < f i then f i - 1 else f i) (fun i hi => by
        have := h i (by omega)
        have := hc' i hi
        show (if f (N + 1) < f i then f i - 1 else f i) < N
        split <;> omega)
      have h1 := hc' i (by omega)
      have h2 := hc' j hj
      refine ⟨i, j, hij, by omega, ?_⟩
      split at e <;> split at e <;> omega
theorem least_of {p : Nat → Prop} : ∀ n, p n → ∃ m, p m ∧ m ≤ n ∧ ∀ k, k < m → ¬ p k := by
  intro n
  induction n using Nat.strongRecOn with
  | ind n ih =>
    intro hp
    by_cases hc : ∃ k, k < n ∧ p k
    · obtain ⟨k, hk, hpk⟩ := hc
      obtain ⟨m, h1, h2, h3⟩ := ih k hk hpk
      exact ⟨m, h1, by omega, h3⟩
    · exact ⟨n, hp, Nat.le_refl _, fun k hk hpk => hc ⟨k, hk, hpk⟩⟩
/-- the number of segments -/
def nSeg (wd ht : Int) : Nat := (4 * wd * ht).toNat
theorem nSeg_int {wd ht : Int} (hs : Sz wd ht) : (nSeg wd ht : Int) = 4 * wd * ht ∧ nSeg wd ht ≤ 256 ∧ 4 ≤ nSeg wd ht := by
  obtain ⟨s1, s2, s3, s4⟩ := hs
  unfold nSeg
  rcases eight s3 s4 with rfl | rfl | rfl | rfl | rfl | rfl | rfl | rfl <;> omega
def segN (ht : Int) (a : Wk) : Nat := (segW ht a).toNat
section
variable {wd ht : Int} {xs : List Int}
theorem segN_int (hs : Sz wd ht) {a : Wk} (h : OkW wd ht a) : (segN ht a : Int) = segW ht a ∧ segN ht a < nSeg wd ht := by
  have h1 := seg_range hs h
  have h2 := nSeg_int hs
  unfold segN
  omega
theorem comes_back (hs : Sz wd ht) {a : Wk} (h : OkW wd ht a) : ∃ n, (0 < n ∧ itW wd ht xs n a = a) ∧ n ≤ nSeg wd ht ∧ ∀ k, k < n → ¬ (0 < k ∧ itW wd ht xs k a = a) := by
  have hex : ∃ n, n ≤ nSeg wd ht ∧ 0 < n ∧ itW wd ht xs n a = a := by
    obtain ⟨i, j, hij, hj, e⟩ := pigeon (nSeg wd ht) (fun i => segN ht (itW wd ht xs i a)) (fun i _ => (segN_int hs (okW_it h i)).2)
    have e' : segW ht (itW wd ht xs i a) = segW ht (itW wd ht xs j a) := by
      have h1 := (segN_int hs (okW_it (xs := xs) h i)).1
      have h2 := (segN_int hs (okW_it (xs := xs) h j)).1
      rw [← h1, ← h2]
      exact congrArg _ e
    by_cases hc : ∃ k, k ≤ nSeg wd ht ∧ 0 < k ∧ itW wd ht xs k a = a
    · exact hc
    · exact absurd e' (seg_distinct hs h (n := nSeg wd ht + 1) (fun k h1 h2 h3 => hc ⟨k, by omega, h1, h3⟩) hij (by omega))
  obtain ⟨n, hn, h1⟩ := hex
  obtain ⟨m, h2, h3, h4⟩ := least_of (p := fun k => 0 < k ∧ itW wd ht xs k a = a) n h1
  exact ⟨m, h2, by omega, h4⟩
end
open Classical in
/-- how many steps it takes to come back -/
noncomputable def perW (wd ht : Int) (xs : List Int) (a : Wk) : Nat :=
  if h : ∃ n, (0 < n ∧ itW wd ht xs n a = a) ∧ n ≤ nSeg wd ht ∧ ∀ k, k < n → ¬ (0 < k ∧ itW wd ht xs k a = a) then Classical.choose h else 0
/-- the curve of a walker -/
noncomputable def orbW (wd ht : Int) (xs : List Int) (a : Wk) : List Wk := (List.range (perW wd ht xs a)).map fun i => itW wd ht xs i a
section
variable {wd ht : Int} {xs : List Int}
theorem per_spec (hs : Sz wd ht) {a : Wk} (h : OkW wd ht a) : 0 < perW wd ht xs a ∧ itW wd ht xs (perW wd ht xs a) a = a ∧ perW wd ht xs a ≤ nSeg wd ht ∧ ∀ k, 0 < k → k < perW wd ht xs a → itW wd ht xs k a ≠ a := by
  have hx := comes_back (xs := xs) hs h
  unfold perW
  rw [dif_pos hx]
  obtain ⟨⟨h1, h2⟩, h3, h4⟩ := Classical.choose_spec hx
  exact ⟨h1, h2, h3, fun k k1 k2 k3 => h4 k k2 ⟨k1, k3⟩⟩
theorem orbW_len (a : Wk) : (orbW wd ht xs a).length = perW wd ht xs a := by simp [orbW]
theorem orbW_at (a : Wk) {i : Nat} (h : i < perW wd ht xs a) : (orbW wd ht xs a)[i]? = some (itW wd ht xs i a) := by
  simp [orbW, h]
theorem orbW_mem {a x : Wk} : x ∈ orbW wd ht xs a ↔ ∃ i, i < perW wd ht xs a ∧ itW wd ht xs i a = x := by
  simp [orbW]
theorem orbW_ok {a : Wk} (h : OkW wd ht a) {x : Wk} (hx : x ∈ orbW wd ht xs a) : OkW wd ht x := by
  obtain ⟨i, _, rfl⟩ := orbW_mem.1 hx
  exact okW_it h i
/-- the next one of a curve's walkers is of the curve, and the one before -/
theorem orbW_next (hs : Sz wd ht) {a : Wk} (h : OkW wd ht a) {x : Wk} (hx : x ∈ orbW wd ht xs a) : stepW wd ht xs x ∈ orbW wd ht xs a := by
  obtain ⟨i, hi, rfl⟩ := orbW_mem.1 hx
  obtain ⟨p1, p2, p3, p4⟩ := per_spec (xs := xs) hs h
  by_cases hc : i + 1 < perW wd ht xs a
  · exact orbW_mem.2 ⟨i + 1, hc, rfl⟩
  · refine orbW_mem.2 ⟨0, p1, ?_⟩
    have e : i + 1 = perW wd ht xs a := by omega
    show a = itW wd ht xs (i + 1) a
    rw [e, p2]
theorem orbW_prev (hs : Sz wd ht) {a : Wk} (h : OkW wd ht a) {x : Wk} (hx : x ∈ orbW wd ht xs a) : ∃ y, y ∈ orbW wd ht xs a ∧ stepW wd ht xs y = x := by
  obtain ⟨i, hi, rfl⟩ := orbW_mem.1 hx
  obtain ⟨p1, p2, p3, p4⟩ := per_spec (xs := xs) hs h
  cases i with
  | zero =>
    refine ⟨itW wd ht xs (perW wd ht xs a - 1) a, orbW_mem.2 ⟨_, by omega, rfl⟩, ?_⟩
    show itW wd ht xs (perW wd ht xs a - 1 + 1) a = a
    rw [show perW wd ht xs a - 1 + 1 = perW wd ht xs a by omega, p2]
  | succ i => exact ⟨itW wd ht xs i a, orbW_mem.2 ⟨i, by omega, rfl⟩, rfl⟩
end
end Go.Proofs.YtocellbhpjiioaaGreat

namespace Go.Proofs.YtocellbhpjiioaaGreat
set_option linter.unusedVariables false

/-- a curve's label put to all its segments -/
def markL (ht : Int) (o : List Int) (c : List Wk) (m : Int) : List Int := c.foldl (fun o x => o.set (segN ht x) m) o
section
variable {ht m : Int}
theorem markL_len (c : List Wk) : ∀ o : List Int, (markL ht o c m).length = o.length := by
  induction c with
  | nil => intro o; rfl
  | cons x t ih => intro o; show (markL ht (o.set (segN ht x) m) t m).length = _; rw [ih, List.length_set]
theorem markL_next {c : List Wk} {i : Nat} {x : Wk} (o : List Int) (hx : c[i]? = some x) : markL ht o (c.take (i + 1)) m = (markL ht o (c.take i) m).set (segN ht x) m := by
  unfold markL
  rw [List.take_add_one, hx, List.foldl_append]
  rfl
theorem markL_out {k : Nat} (c : List Wk) : ∀ o : List Int, (∀ x ∈ c, segN ht x ≠ k) → (markL ht o c m)[k]? = o[k]? := by
  induction c with
  | nil => intro o _; rfl
  | cons x t ih =>
    intro o h
    show (markL ht (o.set (segN ht x) m) t m)[k]? = _
    rw [ih _ (fun y hy => h y (by simp [hy])), List.getElem?_set_ne (h x (by simp))]
theorem markL_keep {k : Nat} (c : List Wk) : ∀ o : List Int, o[k]? = some m → (markL ht o c m)[k]? = some m := by
  induction c with
  | nil => intro o h; exact h
  | cons x t ih =>
    intro o h
    refine ih (o.set (segN ht x) m) ?_
    by_cases e : segN ht x = k
    · rw [e, List.getElem?_set_self (List.getElem?_eq_some_iff.1 h).1]
    · rw [List.getElem?_set_ne e]; exact h
theorem markL_in {x : Wk} (c : List Wk) : ∀ o : List Int, x ∈ c → segN ht x < o.length → (markL ht o c m)[segN ht x]? = some m := by
  induction c with
  | nil => intro o h; cases h
  | cons y t ih =>
    intro o h hl
    rcases List.mem_cons.1 h with rfl | h
    · exact markL_keep t _ (List.getElem?_set_self hl)
    · exact ih (o.set (segN ht y) m) h (by rw [List.length_set]; exact hl)
end

/-- the walker along a segment to the right -/
def walkK (ht k : Int) : Wk := if (k / (2 * ht) + k % (2 * ht)) % 2 = 1 then ⟨k / (2 * ht), k % (2 * ht), 1, 1⟩ else ⟨k / (2 * ht), k % (2 * ht) + 1, 1, -1⟩
section
variable {wd ht : Int} {xs : List Int}
theorem walkK_ok (hs : Sz wd ht) {k : Nat} (hk : k < nSeg wd ht) : OkW wd ht (walkK ht k) ∧ segN ht (walkK ht k) = k := by
  have hn := nSeg_int hs
  obtain ⟨s1, s2, s3, s4⟩ := hs
  have hkk : (k : Int) < 4 * wd * ht := by omega
  clear hn
  unfold segN segW loX loY OkW OnP walkK
  simp only [Wk.nx, Wk.ny]
  rcases eight s3 s4 with rfl | rfl | rfl | rfl | rfl | rfl | rfl | rfl <;> split <;> simp <;> omega

noncomputable def trStep (wd ht : Int) (xs : List Int) (st : List Int × List (List Wk)) (k : Nat) : List Int × List (List Wk) :=
  if 0 ≤ st.1.getD k 0 then st else (markL ht st.1 (orbW wd ht xs (walkK ht k)) st.2.length, st.2 ++ [orbW wd ht xs (walkK ht k)])
noncomputable def trTo (wd ht : Int) (xs : List Int) : Nat → List Int × List (List Wk)
  | 0 => (List.replicate (nSeg wd ht) (-1), [])
  | k + 1 => trStep wd ht xs (trTo wd ht xs k) k

structure TrInv (wd ht : Int) (xs : List Int) (st : List Int × List (List Wk)) (k : Nat) : Prop where
  len : st.1.length = nSeg wd ht
  rng : ∀ (j : Nat) (v : Int), st.1[j]? = some v → -1 ≤ v ∧ v < (st.2.length : Int)
  pos : ∀ (j : Nat) (v : Int), j < k → st.1[j]? = some v → 0 ≤ v
  closed : ∀ a, OkW wd ht a → st.1[segN ht a]? = st.1[segN ht (stepW wd ht xs a)]?
  start : ∀ (i : Nat) c, st.2[i]? = some c → ∃ j, j < nSeg wd ht ∧ c = orbW wd ht xs (walkK ht (j : Nat)) ∧ st.1[j]? = some (i : Int) ∧ ∀ j', j' < j → st.1[j']? ≠ some (i : Int)
  mem : ∀ (i : Nat) c, st.2[i]? = some c → ∀ x ∈ c, st.1[segN ht x]? = some (i : Int)
  cnt : st.2.length ≤ k
  cov : ∀ a (v : Int), OkW wd ht a → st.1[segN ht a]? = some v → 0 ≤ v → ∃ c, st.2[v.toNat]? = some c ∧ (a ∈ c ∨ backW a ∈ c)
theorem trInv_zero (hs : Sz wd ht) : TrInv wd ht xs (List.replicate (nSeg wd ht) (-1), []) 0 := by
  refine ⟨by simp, fun j v h => ?_, fun j v h => by omega, fun a h => ?_, fun i c h => by simp at h, fun i c h => by simp at h, by simp, fun a v h h1 h2 => ?_⟩
  · rw [List.getElem?_replicate] at h
    split at h
    · injection h with h; subst h; simp
    · cases h
  · rw [List.getElem?_replicate, if_pos (segN_int hs h).2, List.getElem?_replicate, if_pos (segN_int hs (okW_step h)).2]
  · rw [List.getElem?_replicate, if_pos (segN_int hs h).2] at h1
    injection h1 with h1
    omega
/-- along a curve one label stands -/
theorem TrInv.along {st : List Int × List (List Wk)} {k : Nat} (h : TrInv wd ht xs st k) {a : Wk} (ha : OkW wd ht a) : ∀ i, st.1[segN ht (itW wd ht xs i a)]? = st.1[segN ht a]?
  | 0 => rfl
  | i + 1 => by
    rw [← h.along ha i]
    exact (h.closed _ (okW_it ha i)).symm
theorem trInv_step (hs : Sz wd ht) {st : List Int × List (List Wk)} {k : Nat} (h : TrInv wd ht xs st k) (hk : k < nSeg wd ht) : TrInv wd ht xs (trStep wd ht xs st k) (k + 1) := by
  have hlk : k < st.1.length := by rw [h.len]; exact hk
  have hv : st.1[k]? = some (st.1.getD k 0) := by
    rw [List.getElem?_eq_getElem hlk]
    simp [List.getD, List.getElem?_eq_getElem hlk]
  unfold trStep
  by_cases hc : 0 ≤ st.1.getD k 0
  · rw [if_pos hc]
    refine ⟨h.len, h.rng, fun j v hj e => ?_, h.closed, h.start, h.mem, by have := h.cnt; omega, h.cov⟩
    by_cases hjk : j = k
    · subst hjk
      rw [hv] at e
      injection e with e
      omega
    · exact h.pos j v (by omega) e
  · rw [if_neg hc]
    obtain ⟨hw1, hw2⟩ := walkK_ok hs hk
    have hm1 : st.1.getD k 0 = -1 := by have := (h.rng k _ hv).1; omega
    rw [hm1] at hv
    generalize hcdef : orbW wd ht xs (walkK ht k) = c
    have hself : walkK ht k ∈ c := by
      rw [← hcdef]
      exact orbW_mem.2 ⟨0, (per_spec hs hw1).1, rfl⟩
    have hnext : ∀ x ∈ c, stepW wd ht xs x ∈ c := fun x hx => by rw [← hcdef] at hx ⊢; exact orbW_next hs hw1 hx
    have hprev : ∀ x ∈ c, ∃ y, y ∈ c ∧ stepW wd ht xs y = x := fun x hx => by rw [← hcdef] at hx ⊢; exact orbW_prev hs hw1 hx
    have hok : ∀ x ∈ c, OkW wd ht x := fun x hx => by rw [← hcdef] at hx; exact orbW_ok hw1 hx
    have hold : ∀ x ∈ c, st.1[segN ht x]? = some (-1) := fun x hx => by
      rw [← hcdef] at hx
      obtain ⟨i, _, rfl⟩ := orbW_mem.1 hx
      rw [h.along hw1 i, hw2, hv]
    have hsl : ∀ x, OkW wd ht x → segN ht x < st.1.length := fun x hx => by rw [h.len]; exact (segN_int hs hx).2
    have hsegN : ∀ x y, OkW wd ht x → OkW wd ht y → segN ht x = segN ht y → x = y ∨ x = backW y := fun x y hx hy e => by
      refine seg_inj hs hx hy ?_
      rw [← (segN_int hs hx).1, ← (segN_int hs hy).1, e]
    have hbk : ∀ x, OkW wd ht x → segN ht (backW x) = segN ht x := fun x hx => by unfold segN; rw [seg_back hx]
    have hin : ∀ j x, x ∈ c → segN ht x = j → (markL ht st.1 c st.2.length)[j]? = some (st.2.length : Int) := fun j x hx e => by
      subst e
      exact markL_in c st.1 hx (hsl x (hok x hx))
    have hout : ∀ j, (¬ ∃ x, x ∈ c ∧ segN ht x = j) → (markL ht st.1 c st.2.length)[j]? = st.1[j]? := fun j hj => markL_out c st.1 (fun x hx e => hj ⟨x, hx, e⟩)
    have hstay : ∀ (j i : Nat), st.1[j]? = some (i : Int) → (markL ht st.1 c st.2.length)[j]? = some (i : Int) := fun j i e => by
      rw [hout j (fun ⟨x, hx, e2⟩ => by have := hold x hx; rw [e2, e] at this; injection this with this; omega), e]
    refine ⟨by rw [← h.len]; exact markL_len c st.1, fun j v e => ?_, fun j v hj e => ?_, fun a ha => ?_, fun i c' e => ?_, fun i c' e x hx => ?_, by have := h.cnt; simp; omega, fun a v ha e h0 => ?_⟩
    · simp only [List.length_append, List.length_singleton]
      by_cases hj : ∃ x, x ∈ c ∧ segN ht x = j
      · obtain ⟨x, hx, e2⟩ := hj
        rw [hin j x hx e2] at e
        injection e with e
        omega
      · rw [hout j hj] at e
        have := h.rng j v e
        omega
    · by_cases hjc : ∃ x, x ∈ c ∧ segN ht x = j
      · obtain ⟨x, hx, e2⟩ := hjc
        rw [hin j x hx e2] at e
        injection e with e
        omega
      · rw [hout j hjc] at e
        by_cases hjk : j = k
        · subst hjk
          exact absurd ⟨_, hself, hw2⟩ hjc
        · exact h.pos j v (by omega) e
    · by_cases hj : ∃ x, x ∈ c ∧ segN ht x = segN ht a
      · obtain ⟨x, hx, e2⟩ := hj
        rw [hin _ x hx e2]
        rcases hsegN a x ha (hok x hx) e2.symm with e3 | e3
        · subst e3
          rw [hin _ _ (hnext a hx) rfl]
        · obtain ⟨y, hy, e4⟩ := hprev x hx
          rw [e3, ← e4, step_back_step, hbk y (hok y hy), hin _ y hy rfl]
      · have hj2 : ¬ ∃ x, x ∈ c ∧ segN ht x = segN ht (stepW wd ht xs a) := fun ⟨x, hx, e2⟩ => by
          rcases hsegN _ x (okW_step ha) (hok x hx) e2.symm with e3 | e3
          · obtain ⟨y, hy, e4⟩ := hprev x hx
            rw [← e4] at e3
            have e5 := step_inj e3
            subst e5
            exact hj ⟨a, hy, rfl⟩
          · rw [← step_back_step (wd := wd) (ht := ht) (xs := xs) x] at e3
            have e5 := step_inj e3
            have hy := hnext x hx
            exact hj ⟨_, hy, by rw [e5, hbk _ (hok _ hy)]⟩
        rw [hout _ hj, hout _ hj2]
        exact h.closed a ha
    · by_cases hi : i < st.2.length
      · rw [List.getElem?_append_left hi] at e
        obtain ⟨j, j1, j2, j3, j4⟩ := h.start i c' e
        refine ⟨j, j1, j2, hstay j i j3, fun j' hj' e2 => ?_⟩
        by_cases hjc : ∃ x, x ∈ c ∧ segN ht x = j'
        · obtain ⟨x, hx, e3⟩ := hjc
          rw [hin j' x hx e3] at e2
          injection e2 with e2
          omega
        · rw [hout j' hjc] at e2
          exact j4 j' hj' e2
      · rw [List.getElem?_append_right (by omega)] at e
        have hi0 : i - st.2.length = 0 := by
          have := (List.getElem?_eq_some_iff.1 e).1
          simp at this
          omega
        rw [hi0] at e
        simp at e
        have hie : i = st.2.length := by omega
        subst hie
        refine ⟨k, hk, by rw [← e, hcdef], hin k _ hself hw2, fun j' hj' e2 => ?_⟩
        by_cases hjc : ∃ x, x ∈ c ∧ segN ht x = j'
        · obtain ⟨x, hx, e3⟩ := hjc
          have h1 := hold x hx
          rw [e3] at h1
          have := h.pos j' _ hj' h1
          omega
        · rw [hout j' hjc] at e2
          have := h.rng j' _ e2
          omega
    · by_cases hi : i < st.2.length
      · rw [List.getElem?_append_left hi] at e
        exact hstay _ i (h.mem i c' e x hx)
      · rw [List.getElem?_append_right (by omega)] at e
        have hi0 : i - st.2.length = 0 := by
          have := (List.getElem?_eq_some_iff.1 e).1
          simp at this
          omega
        rw [hi0] at e
        simp at e
        have hie : i = st.2.length := by omega
        subst hie e
        exact hin _ x hx rfl
    · by_cases hj : ∃ x, x ∈ c ∧ segN ht x = segN ht a
      · obtain ⟨x, hx, e2⟩ := hj
        rw [hin _ x hx e2] at e
        injection e with e
        subst e
        refine ⟨c, by simp, ?_⟩
        rcases hsegN a x ha (hok x hx) e2.symm with e3 | e3
        · exact .inl (e3 ▸ hx)
        · exact .inr (by rw [e3, back_back]; exact hx)
      · rw [hout _ hj] at e
        obtain ⟨c', e1, e2⟩ := h.cov a v ha e h0
        exact ⟨c', by rw [List.getElem?_append_left (List.getElem?_eq_some_iff.1 e1).1]; exact e1, e2⟩
theorem trInv_to (hs : Sz wd ht) : ∀ k, k ≤ nSeg wd ht → TrInv wd ht xs (trTo wd ht xs k) k
  | 0, _ => trInv_zero hs
  | k + 1, hk => trInv_step hs (trInv_to hs k (by omega)) (by omega)
/-- the owners of all segments; the curves -/
noncomputable def ownL (wd ht : Int) (xs : List Int) : List Int := (trTo wd ht xs (nSeg wd ht)).1
noncomputable def curL (wd ht : Int) (xs : List Int) : List (List Wk) := (trTo wd ht xs (nSeg wd ht)).2
theorem trInv_all (hs : Sz wd ht) : TrInv wd ht xs (ownL wd ht xs, curL wd ht xs) (nSeg wd ht) := trInv_to hs _ (Nat.le_refl _)
end
end Go.Proofs.YtocellbhpjiioaaGreat

namespace Go.Proofs.YtocellbhpjiioaaGreat
open Go.RowKit
set_option linter.unusedVariables false

/-- A world at which nothing below W0 has changed. -/
structure BelowOf (W0 : World) where
  w : World
  h : Below W0.heap.size W0 w
instance (W0 : World) : Nonempty (BelowOf W0) := ⟨⟨W0, Below.refl _ _⟩⟩
/-- A region whose callees may lay blocks, walked once: the class of worlds is 'BelowOf'. -/
theorem region_below {P : Program} {id : Nat} {Q : Exit → Act → World → Prop} {a : Act} {w W0 : World} {l : List Oper} (hm : P.follows .mixedOrders = true) (hB : Region.lexB .any l.toArray = true) (hC : Below W0.heap.size W0 w.drew)
    (h : wpQuiet P l.toArray (fun w' => ∃ p : BelowOf W0, w' = p.w) (fun a' => ∀ w', (∃ p : BelowOf W0, w' = p.w) → Q .normal a' w') l a) : (Code.region id l.toArray true).wp P Q a w :=
  wp_region_quiet (C := fun w' => ∃ p : BelowOf W0, w' = p.w) hm hB ⟨⟨_, hC⟩, rfl⟩ (by simpa using h)
theorem BelowOf.ret {P : Program} {f : FuncId} {args : Array Value} {W0 : World} {v : Value} {p : BelowOf W0} (h : Calls P f args p.w (RetV p.w v)) : Calls P f args p.w fun e w' => e = .returned v ∧ ∃ q : BelowOf W0, w' = q.w :=
  h.mono fun _ _ ⟨he, hb⟩ => ⟨he, ⟨⟨_, p.h.trans (hb.mono p.h.size)⟩, rfl⟩⟩
end Go.Proofs.YtocellbhpjiioaaGreat
