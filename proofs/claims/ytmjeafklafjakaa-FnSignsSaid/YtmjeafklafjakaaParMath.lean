/-
  Two closed curves of a panel cross evenly often, in plain Lean: sums over the cells and points of a grid. Conditions: a valid panel's sides.
-/
import Derived.Test.YtmjeafklafjakaaTrMath3
namespace Go.Proofs.Ytmjeafklafjakaa
set_option linter.unusedVariables false

/-- the sum of the first values of a function -/
def su : Nat → (Nat → Int) → Int
  | 0, _ => 0
  | k + 1, f => su k f + f k
theorem su_congr {f g : Nat → Int} : ∀ {k : Nat}, (∀ i, i < k → f i = g i) → su k f = su k g
  | 0, _ => rfl
  | k + 1, h => by
    show su k f + f k = su k g + g k
    rw [su_congr fun i hi => h i (by omega), h k (by omega)]
theorem su_zero {f : Nat → Int} : ∀ {k : Nat}, (∀ i, i < k → f i = 0) → su k f = 0
  | 0, _ => rfl
  | k + 1, h => by
    show su k f + f k = 0
    rw [su_zero fun i hi => h i (by omega), h k (by omega)]
    rfl
theorem su_add (f g : Nat → Int) : ∀ k : Nat, su k (fun i => f i + g i) = su k f + su k g
  | 0 => rfl
  | k + 1 => by
    show su k (fun i => f i + g i) + (f k + g k) = (su k f + f k) + (su k g + g k)
    rw [su_add f g k]
    omega
theorem su_mod {f g : Nat → Int} : ∀ {k : Nat}, (∀ i, i < k → f i % 2 = g i % 2) → su k f % 2 = su k g % 2
  | 0, _ => rfl
  | k + 1, h => by
    have h1 := su_mod (k := k) fun i hi => h i (by omega)
    have h2 := h k (by omega)
    show (su k f + f k) % 2 = (su k g + g k) % 2
    omega
theorem su_shift (g : Nat → Int) : ∀ n : Nat, su n (fun i => g (i + 1)) = su n g + g n - g 0
  | 0 => by show (0 : Int) = 0 + g 0 - g 0; omega
  | n + 1 => by
    show su n (fun i => g (i + 1)) + g (n + 1) = (su n g + g n) + g (n + 1) - g 0
    rw [su_shift g n]
    omega
theorem su_shift0 {g : Nat → Int} {n : Nat} (h0 : g 0 = 0) (hn : g n = 0) : su n (fun i => g (i + 1)) = su n g := by
  rw [su_shift, h0, hn]
  omega
theorem su_list (f : Nat → Int) : ∀ n : Nat, su n f = ((List.range n).map f).sum
  | 0 => rfl
  | n + 1 => by
    show su n f + f n = _
    rw [List.range_succ, List.map_append, List.sum_append, su_list f n]
    simp
theorem su_swap (f : Nat → Nat → Int) (b : Nat) : ∀ a : Nat, su a (fun i => su b (fun j => f i j)) = su b (fun j => su a (fun i => f i j))
  | 0 => (su_zero fun _ _ => rfl).symm
  | a + 1 => by
    show su a (fun i => su b (fun j => f i j)) + su b (fun j => f a j) = su b (fun j => su a (fun i => f i j) + f a j)
    rw [su_swap f b a, su_add]

/-- one if odd -/
def od (n : Nat) : Int := ((n % 2 : Nat) : Int)
section
variable {X Y : Nat} {f : Nat → Nat → Int}
/-- a function that is zero at and beyond the border, summed over the cells round all odd points, is even -/
theorem round_even (h0 : ∀ j, f 0 j = 0) (h1 : ∀ i, f i 0 = 0) (h2 : ∀ j, f (X + 1) j = 0) (h3 : ∀ i, f i (Y + 1) = 0) :
    su (X + 1) (fun x => su (Y + 1) (fun y => od (x + y) * (f x y + f (x + 1) y + f x (y + 1) + f (x + 1) (y + 1)))) % 2 = 0 := by
  have key : ∀ e : Nat → Nat → Int, (∀ j, e 0 j = 0) → (∀ j, e (X + 1) j = 0) → su (X + 1) (fun x => su (Y + 1) (fun y => e (x + 1) y)) = su (X + 1) (fun x => su (Y + 1) (fun y => e x y)) := fun e k0 k2 =>
    su_shift0 (g := fun x => su (Y + 1) (fun y => e x y)) (su_zero fun j _ => k0 j) (su_zero fun j _ => k2 j)
  have key2 : ∀ e : Nat → Nat → Int, (∀ i, e i 0 = 0) → (∀ i, e i (Y + 1) = 0) → su (X + 1) (fun x => su (Y + 1) (fun y => e x (y + 1))) = su (X + 1) (fun x => su (Y + 1) (fun y => e x y)) := fun e k1 k3 =>
    su_congr fun x _ => su_shift0 (g := fun y => e x y) (k1 x) (k3 x)
  have e1 : su (X + 1) (fun x => su (Y + 1) (fun y => od (x + y) * f (x + 1) (y + 1))) = su (X + 1) (fun x => su (Y + 1) (fun y => od (x + y) * f x y)) := by
    have a1 := key (fun x y => od (x + y) * f x y) (fun j => by rw [h0]; simp) (fun j => by rw [h2]; simp)
    have a2 := key2 (fun x y => od (x + 1 + y) * f (x + 1) y) (fun j => by rw [h1]; simp) (fun j => by rw [h3]; simp)
    rw [← a1, ← a2]
    refine su_congr fun x _ => su_congr fun y _ => ?_
    have : od (x + 1 + (y + 1)) = od (x + y) := by unfold od; omega
    rw [this]
  have e2 : su (X + 1) (fun x => su (Y + 1) (fun y => od (x + y) * f (x + 1) y)) = su (X + 1) (fun x => su (Y + 1) (fun y => od (x + y + 1) * f x y)) := by
    rw [← key (fun x y => od (x + y + 1) * f x y) (fun j => by rw [h0]; simp) (fun j => by rw [h2]; simp)]
    refine su_congr fun x _ => su_congr fun y _ => ?_
    have : od (x + 1 + y + 1) = od (x + y) := by unfold od; omega
    rw [this]
  have e3 : su (X + 1) (fun x => su (Y + 1) (fun y => od (x + y) * f x (y + 1))) = su (X + 1) (fun x => su (Y + 1) (fun y => od (x + y + 1) * f x y)) := by
    rw [← key2 (fun x y => od (x + y + 1) * f x y) (fun j => by rw [h1]; simp) (fun j => by rw [h3]; simp)]
    refine su_congr fun x _ => su_congr fun y _ => ?_
    have : od (x + (y + 1) + 1) = od (x + y) := by unfold od; omega
    rw [this]
  have e4 : su (X + 1) (fun x => su (Y + 1) (fun y => od (x + y) * (f x y + f (x + 1) y + f x (y + 1) + f (x + 1) (y + 1)))) =
      su (X + 1) (fun x => su (Y + 1) (fun y => od (x + y) * f x y)) + su (X + 1) (fun x => su (Y + 1) (fun y => od (x + y) * f (x + 1) y)) + su (X + 1) (fun x => su (Y + 1) (fun y => od (x + y) * f x (y + 1))) + su (X + 1) (fun x => su (Y + 1) (fun y => od (x + y) * f (x + 1) (y + 1))) := by
    rw [← su_add, ← su_add, ← su_add]
    refine su_congr fun x _ => ?_
    rw [← su_add, ← su_add, ← su_add]
    refine su_congr fun y _ => ?_
    rw [Int.mul_add, Int.mul_add, Int.mul_add]
  rw [e4, e1, e2, e3]
  omega
end

/-- what meets at a point: which cells round it are of one line -/
def Pairs {α : Type} (k : Nat) (sw se nw ne : α) : Prop := (k = 0 ∧ sw = ne ∧ nw = se) ∨ (k = 1 ∧ sw = nw ∧ se = ne) ∨ (k = 2 ∧ sw = se ∧ nw = ne)
def ind (a c : Int) : Int := if c = a then 1 else 0
theorem ind_01 (a c : Int) : ind a c = 0 ∨ ind a c = 1 := by unfold ind; split <;> omega
theorem ind_ex {a b : Int} (h : a ≠ b) (c : Int) : ind a c * ind b c = 0 := by
  unfold ind
  by_cases h1 : c = a
  · rw [if_neg (show ¬ c = b by omega), Int.mul_zero]
  · rw [if_neg h1, Int.zero_mul]
section
variable {X Y : Nat} {c : Nat → Nat → Int} {K : Nat → Nat → Nat} {a b : Int}
/-- how many cells of the curve a lie to the left -/
def lft (c : Nat → Nat → Int) (a : Int) (i j : Nat) : Int := su i (fun i' => ind a (c i' j))
theorem pairs_ind {k : Nat} {sw se nw ne : Int} (a : Int) (h : Pairs k sw se nw ne) : (ind a sw + ind a se + ind a nw + ind a ne) % 2 = 0 := by
  rcases h with ⟨_, rfl, rfl⟩ | ⟨_, rfl, rfl⟩ | ⟨_, rfl, rfl⟩ <;> omega
theorem rows_even (h0 : ∀ j, ind a (c 0 j) = 0) (hp : ∀ x y, x ≤ X → y ≤ Y → (x + y) % 2 = 1 → Pairs (K x y) (c x y) (c (x + 1) y) (c x (y + 1)) (c (x + 1) (y + 1))) :
    ∀ x y, x ≤ X → y ≤ Y → (x + y) % 2 = 1 → (lft c a x y + lft c a x (y + 1)) % 2 = 0
  | 0, y, _, _, _ => rfl
  | 1, y, _, _, _ => by
    show ((0 + ind a (c 0 y)) + (0 + ind a (c 0 (y + 1)))) % 2 = 0
    rw [h0, h0]
    rfl
  | x + 2, y, hx, hy, ho => by
    have ih := rows_even h0 hp x y (by omega) hy (by omega)
    have h4 := pairs_ind a (hp x y (by omega) hy (by omega))
    show (((lft c a x y + ind a (c x y)) + ind a (c (x + 1) y)) + ((lft c a x (y + 1) + ind a (c x (y + 1))) + ind a (c (x + 1) (y + 1)))) % 2 = 0
    omega
/-- both curves cross at a point -/
def both (c : Nat → Nat → Int) (K : Nat → Nat → Nat) (a b : Int) (x y : Nat) : Int := if K x y = 0 then ind a (c x y) * ind b (c (x + 1) y) + ind a (c (x + 1) y) * ind b (c x y) else 0
theorem local_even {k : Nat} {sw se nw ne p q t : Int} (hab : a ≠ b) (h : Pairs k sw se nw ne) (hpq : (p + q) % 2 = 0) (ht : t = if k = 0 then ind a sw * ind b se + ind a se * ind b sw else 0) :
    (ind b sw * p + ind b se * (p + ind a sw) + ind b nw * q + ind b ne * (q + ind a nw)) % 2 = t % 2 := by
  have x1 := ind_ex hab sw
  have x2 := ind_ex hab se
  have x3 := ind_ex hab nw
  have x4 := ind_ex hab ne
  rcases h with ⟨rfl, rfl, rfl⟩ | ⟨rfl, rfl, rfl⟩ | ⟨rfl, rfl, rfl⟩
  · rw [if_pos rfl] at ht
    rcases ind_01 a sw with u1 | u1 <;> rcases ind_01 b sw with u2 | u2 <;> rcases ind_01 a nw with u3 | u3 <;> rcases ind_01 b nw with u4 | u4 <;> simp only [u1, u2, u3, u4] at * <;> omega
  · rw [if_neg (by omega)] at ht
    rcases ind_01 a sw with u1 | u1 <;> rcases ind_01 b sw with u2 | u2 <;> rcases ind_01 a se with u3 | u3 <;> rcases ind_01 b se with u4 | u4 <;> simp only [u1, u2, u3, u4] at * <;> omega
  · rw [if_neg (by omega)] at ht
    rcases ind_01 a sw with u1 | u1 <;> rcases ind_01 b sw with u2 | u2 <;> rcases ind_01 a nw with u3 | u3 <;> rcases ind_01 b nw with u4 | u4 <;> simp only [u1, u2, u3, u4] at * <;> omega
theorem meet_even (hab : a ≠ b) (ha0 : ∀ j, ind a (c 0 j) = 0) (hb0 : ∀ j, ind b (c 0 j) = 0) (hb1 : ∀ i, ind b (c i 0) = 0) (hb2 : ∀ j, ind b (c (X + 1) j) = 0) (hb3 : ∀ i, ind b (c i (Y + 1)) = 0)
    (hp : ∀ x y, x ≤ X → y ≤ Y → (x + y) % 2 = 1 → Pairs (K x y) (c x y) (c (x + 1) y) (c x (y + 1)) (c (x + 1) (y + 1))) :
    su (X + 1) (fun x => su (Y + 1) (fun y => od (x + y) * both c K a b x y)) % 2 = 0 := by
  rw [← round_even (X := X) (Y := Y) (f := fun i j => ind b (c i j) * lft c a i j) (fun j => by rw [hb0, Int.zero_mul]) (fun j => by rw [hb1, Int.zero_mul]) (fun j => by rw [hb2, Int.zero_mul]) (fun j => by rw [hb3, Int.zero_mul])]
  refine (su_mod fun x hx => su_mod fun y hy => ?_).symm
  by_cases ho : (x + y) % 2 = 1
  · have hod : od (x + y) = 1 := by unfold od; rw [ho]; rfl
    rw [hod, Int.one_mul, Int.one_mul]
    have h1 := rows_even ha0 hp x y (by omega) (by omega) ho
    exact local_even hab (hp x y (by omega) (by omega) ho) h1 rfl
  · have hod : od (x + y) = 0 := by unfold od; omega
    rw [hod, Int.zero_mul, Int.zero_mul]
end

/-- the curve of a cell of the grid; -1 outside -/
noncomputable def cellC (wd ht : Int) (xs : List Int) (i j : Nat) : Int :=
  if 1 ≤ i ∧ (i : Int) ≤ 2 * wd ∧ 1 ≤ j ∧ (j : Int) ≤ 2 * ht then (ownL wd ht xs).getD (((i : Int) - 1) * (2 * ht) + ((j : Int) - 1)).toNat (-1) else -1
def kindP (wd ht : Int) (xs : List Int) (x y : Nat) : Nat := if FlipX wd ht xs x y then 1 else if FlipY wd ht xs x y then 2 else 0
section
variable {wd ht : Int} {xs : List Int}
theorem cell_of (hs : Sz wd ht) {a : Wk} (h : OkW wd ht a) {i j : Nat} (hi : (i : Int) = loX a + 1) (hj : (j : Int) = loY a + 1) : cellC wd ht xs i j = (ownL wd ht xs).getD (segN ht a) (-1) := by
  obtain ⟨l1, l2, l3, l4⟩ := lo_facts h
  unfold cellC
  rw [if_pos (by omega)]
  unfold segN segW
  rw [hi, hj]
  simp
theorem cell_out {i j : Nat} (h : ¬ (1 ≤ i ∧ (i : Int) ≤ 2 * wd ∧ 1 ≤ j ∧ (j : Int) ≤ 2 * ht)) : cellC wd ht xs i j = -1 := if_neg h
theorem own_step (hs : Sz wd ht) {a : Wk} (h : OkW wd ht a) : (ownL wd ht xs).getD (segN ht a) (-1) = (ownL wd ht xs).getD (segN ht (stepW wd ht xs a)) (-1) := by
  rw [List.getD_eq_getElem?_getD, List.getD_eq_getElem?_getD]
  have := (trInv_all (xs := xs) hs).closed a h
  simp only at this
  rw [this]
theorem cell_step (hs : Sz wd ht) {a : Wk} (h : OkW wd ht a) {i j i' j' : Nat} (hi : (i : Int) = loX a + 1) (hj : (j : Int) = loY a + 1) (hi' : (i' : Int) = loX (stepW wd ht xs a) + 1) (hj' : (j' : Int) = loY (stepW wd ht xs a) + 1) : cellC wd ht xs i j = cellC wd ht xs i' j' := by
  rw [cell_of hs h hi hj, cell_of hs (okW_step h) hi' hj', own_step hs h]
theorem pairs_at (hs : Sz wd ht) {x y : Nat} (hp : OnP wd ht x y) : Pairs (kindP wd ht xs x y) (cellC wd ht xs x y) (cellC wd ht xs (x + 1) y) (cellC wd ht xs x (y + 1)) (cellC wd ht xs (x + 1) (y + 1)) := by
  obtain ⟨f1, f2, f3⟩ := flip_facts (xs := xs) hp
  have hp' := hp
  unfold OnP at hp
  have ok : ∀ dx dy : Int, (dx = 1 ∨ dx = -1) → (dy = 1 ∨ dy = -1) → 0 ≤ x - dx → x - dx ≤ 2 * wd → 0 ≤ y - dy → y - dy ≤ 2 * ht → OkW wd ht ⟨x - dx, y - dy, dx, dy⟩ := fun dx dy h1 h2 h3 h4 h5 h6 => by
    refine ⟨h1, h2, ?_, ?_⟩
    · unfold OnP
      simp only
      omega
    · show OnP wd ht ((x : Int) - dx + dx) ((y : Int) - dy + dy)
      rw [Int.sub_add_cancel, Int.sub_add_cancel]
      exact hp'
  have st : ∀ dx dy : Int, stepW wd ht xs ⟨x - dx, y - dy, dx, dy⟩ = ⟨x, y, if FlipX wd ht xs x y then -dx else dx, if FlipY wd ht xs x y then -dy else dy⟩ := fun dx dy => by
    unfold stepW
    simp only [Wk.nx, Wk.ny, Int.sub_add_cancel]
  unfold kindP
  by_cases hx : FlipX wd ht xs x y
  · have hy : ¬ FlipY wd ht xs x y := fun h => f3 ⟨hx, h⟩
    have hy2 := f2 hy
    rw [if_pos hx]
    refine .inr (.inl ⟨rfl, ?_, ?_⟩)
    · by_cases h0 : x = 0
      · rw [cell_out (by omega), cell_out (by omega)]
      · have h := ok 1 1 (.inl rfl) (.inl rfl) (by omega) (by omega) (by omega) (by omega)
        refine cell_step hs h ?_ ?_ ?_ ?_
        · unfold loX; simp; try omega
        · unfold loY; simp; try omega
        · rw [st, if_pos hx, if_neg hy]; unfold loX; simp [Wk.nx]; try omega
        · rw [st, if_pos hx, if_neg hy]; unfold loY; simp; try omega
    · by_cases h0 : (x : Int) = 2 * wd
      · rw [cell_out (by omega), cell_out (by omega)]
      · have h := ok (-1) 1 (.inr rfl) (.inl rfl) (by omega) (by omega) (by omega) (by omega)
        refine cell_step hs h ?_ ?_ ?_ ?_
        · unfold loX; simp [Wk.nx]; try omega
        · unfold loY; simp; try omega
        · rw [st, if_pos hx, if_neg hy]; unfold loX; simp; try omega
        · rw [st, if_pos hx, if_neg hy]; unfold loY; simp; try omega
  · rw [if_neg hx]
    have hx2 := f1 hx
    by_cases hy : FlipY wd ht xs x y
    · rw [if_pos hy]
      refine .inr (.inr ⟨rfl, ?_, ?_⟩)
      · by_cases h0 : y = 0
        · rw [cell_out (by omega), cell_out (by omega)]
        · have h := ok 1 1 (.inl rfl) (.inl rfl) (by omega) (by omega) (by omega) (by omega)
          refine cell_step hs h ?_ ?_ ?_ ?_
          · unfold loX; simp; try omega
          · unfold loY; simp; try omega
          · rw [st, if_neg hx, if_pos hy]; unfold loX; simp; try omega
          · rw [st, if_neg hx, if_pos hy]; unfold loY; simp [Wk.ny]; try omega
      · by_cases h0 : (y : Int) = 2 * ht
        · rw [cell_out (by omega), cell_out (by omega)]
        · have h := ok 1 (-1) (.inl rfl) (.inr rfl) (by omega) (by omega) (by omega) (by omega)
          refine cell_step hs h ?_ ?_ ?_ ?_
          · unfold loX; simp; try omega
          · unfold loY; simp [Wk.ny]; try omega
          · rw [st, if_neg hx, if_pos hy]; unfold loX; simp; try omega
          · rw [st, if_neg hx, if_pos hy]; unfold loY; simp; try omega
    · rw [if_neg hy]
      have hy2 := f2 hy
      refine .inl ⟨rfl, ?_, ?_⟩
      · have h := ok 1 1 (.inl rfl) (.inl rfl) (by omega) (by omega) (by omega) (by omega)
        refine cell_step hs h ?_ ?_ ?_ ?_
        · unfold loX; simp; try omega
        · unfold loY; simp; try omega
        · rw [st, if_neg hx, if_neg hy]; unfold loX; simp; try omega
        · rw [st, if_neg hx, if_neg hy]; unfold loY; simp; try omega
      · have h := ok 1 (-1) (.inl rfl) (.inr rfl) (by omega) (by omega) (by omega) (by omega)
        refine cell_step hs h ?_ ?_ ?_ ?_
        · unfold loX; simp; try omega
        · unfold loY; simp [Wk.ny]; try omega
        · rw [st, if_neg hx, if_neg hy]; unfold loX; simp; try omega
        · rw [st, if_neg hx, if_neg hy]; unfold loY; simp [Wk.ny]; try omega
end
end Go.Proofs.Ytmjeafklafjakaa
