/-
  Two closed curves of a panel cross evenly often, in plain Lean: from points to the numbers of crossings; the sums of signs that the law FnSigns asks for. Conditions: a valid panel's sides and breaks.
-/
import Derived.Test.YtmjeafklafjakaaParMath
import Derived.Test.YtmjeafklafjakaaLinkMath
import Derived.Test.YtmjeafklafjakaaPntMath
namespace Go.Proofs.Ytmjeafklafjakaa
set_option linter.unusedVariables false

/-- an inner point -/
def innB (W H x y : Nat) : Bool := (x + y) % 2 == 1 && (decide (0 < x) && (decide (x < 2 * W) && (decide (0 < y) && decide (y < 2 * H))))
theorem innB_iff {W H x y : Nat} : innB W H x y = true ↔ (x + y) % 2 = 1 ∧ 0 < x ∧ x < 2 * W ∧ 0 < y ∧ y < 2 * H := by
  unfold innB
  simp
def rowsP (W H : Nat) : List Nat := (List.range (2 * H + 1)).flatMap fun y => ((List.range (2 * W + 1)).filter fun x => innB W H x y).map fun x : Nat => (numI (W : Int) (x : Int) (y : Int)).toNat
theorem rows_all : ∀ W H : Fin 9, 1 ≤ W.val → 1 ≤ H.val → rowsP W.val H.val = List.range (innerN (W.val : Int) (H.val : Int)).toNat := by decide +kernel
theorem rows_eq {W H : Nat} (h1 : 1 ≤ W) (h2 : W ≤ 8) (h3 : 1 ≤ H) (h4 : H ≤ 8) : rowsP W H = List.range (innerN (W : Int) (H : Int)).toNat :=
  rows_all ⟨W, by omega⟩ ⟨H, by omega⟩ h1 h3
theorem sum_filter (p : Nat → Bool) (f : Nat → Int) : ∀ l : List Nat, ((l.filter p).map f).sum = (l.map fun x => if p x = true then f x else 0).sum
  | [] => rfl
  | x :: t => by
    by_cases h : p x = true
    · rw [List.filter_cons_of_pos h, List.map_cons, List.sum_cons, List.map_cons, List.sum_cons, sum_filter p f t, if_pos h]
    · rw [List.filter_cons_of_neg h, List.map_cons, List.sum_cons, sum_filter p f t, if_neg h, Int.zero_add]
theorem sum_flat (g : Nat → List Nat) (U : Nat → Int) : ∀ l : List Nat, ((l.flatMap g).map U).sum = (l.map fun y => ((g y).map U).sum).sum
  | [] => rfl
  | y :: t => by rw [List.flatMap_cons, List.map_append, List.sum_append, sum_flat g U t, List.map_cons, List.sum_cons]
/-- a sum over the inner points is one over their numbers -/
theorem points_sum {W H : Nat} (h1 : 1 ≤ W) (h2 : W ≤ 8) (h3 : 1 ≤ H) (h4 : H ≤ 8) (U : Nat → Int) :
    su (2 * W + 1) (fun x => su (2 * H + 1) (fun y => if innB W H x y = true then U (numI W x y).toNat else 0)) = su (innerN (W : Int) (H : Int)).toNat U := by
  rw [su_swap, su_list _ (2 * H + 1), su_list U, ← rows_eq h1 h2 h3 h4]
  unfold rowsP
  rw [sum_flat]
  congr 1
  refine List.map_congr_left fun y _ => ?_
  rw [List.map_map, sum_filter, su_list]
  rfl

section
variable {xs : List Int}
/-- a sum over the crossings is one over the points that have no mirror -/
theorem cross_sum (T : Nat → Int) : ∀ n : Nat, su n (fun j => if xs.getD j 0 = 0 then T (zTo xs j).length else 0) = su (zTo xs n).length T
  | 0 => rfl
  | n + 1 => by
    show su n _ + (if xs.getD n 0 = 0 then T (zTo xs n).length else 0) = _
    rw [cross_sum T n, zTo]
    by_cases h : xs.getD n 0 = 0
    · rw [if_pos h, if_pos h, List.length_append, List.length_singleton]
      rfl
    · rw [if_neg h, if_neg h, List.append_nil, Int.add_zero]
end

section
variable {wd ht : Int} {xs : List Int}
/-- the two curves at a crossing -/
theorem cells_at (hs : Sz wd ht) (hl : (xs.length : Int) = innerN wd ht) {x y j : Nat} (hp : OnP wd ht x y) (he : ¬ Edge wd ht x y) (hn : numI wd x y = (j : Int)) (hj : j < xs.length) (h0 : xs.getD j 0 = 0) :
    ∃ i k : Nat, (dirC wd ht xs true)[(zTo xs j).length]? = some (i : Int) ∧ (dirC wd ht xs false)[(zTo xs j).length]? = some (k : Int) ∧
      ((cellC wd ht xs x y = i ∧ cellC wd ht xs (x + 1) y = k) ∨ (cellC wd ht xs x y = k ∧ cellC wd ht xs (x + 1) y = i)) := by
  have hz := zTo_lt h0 hj
  have hkind : kindI wd ht xs x y = 0 := by
    unfold kindI
    rw [if_neg he, hn]
    exact h0
  have hx : ¬ FlipX wd ht xs x y := by unfold FlipX; unfold Edge at he; omega
  have hy : ¬ FlipY wd ht xs x y := by unfold FlipY; unfold Edge at he; omega
  have hpr := pairs_at (xs := xs) hs hp
  unfold kindP at hpr
  rw [if_neg hx, if_neg hy] at hpr
  have hpr2 : cellC wd ht xs x y = cellC wd ht xs (x + 1) (y + 1) ∧ cellC wd ht xs x (y + 1) = cellC wd ht xs (x + 1) y := by
    rcases hpr with ⟨_, h⟩ | ⟨h, _⟩ | ⟨h, _⟩
    · exact h
    · omega
    · omega
  -- each way, the curve that passes over or under is that of the cell behind the point
  have way : ∀ b : Bool, ∃ (i : Nat) (s : Int), (dirC wd ht xs b)[(zTo xs j).length]? = some (i : Int) ∧ (s = 1 ∨ s = -1) ∧ s = (if b then slopeI x else - slopeI x) ∧ (if s = 1 then cellC wd ht xs x y else cellC wd ht xs (x + 1) y) = i := by
    intro b
    obtain ⟨i, c, a, hc, ha, hok, hcr, hov, hix, hd, ho⟩ := dir_spec (b := b) hs hl hz
    obtain ⟨j2, e1, e2, e3⟩ := num_cross hs hl hok.2.2.2 hcr
    have hjj : j2 = j := by
      have hu : (zTo xs j2).length = (zTo xs j).length := by
        rw [← hix]
        unfold idxW
        rw [e1]
        rfl
      by_cases hlt : j2 < j
      · have := zTo_lt e3 hlt; omega
      · by_cases hgt : j < j2
        · have := zTo_lt h0 hgt; omega
        · omega
    subst hjj
    have hpx : a.nx = x ∧ a.ny = y := by
      have q1 := pnt_num hs hok.2.2.2 (cross_iff.1 hcr).1 e1
      have q2 := pnt_num hs hp he hn
      rw [q1] at q2
      exact ⟨congrArg Prod.fst q2, congrArg Prod.snd q2⟩
    have hst := step_cross (wd := wd) (ht := ht) (xs := xs) hcr
    have hT := trInv_all (xs := xs) hs
    have hown := hT.mem i c hc a ha
    simp only at hown
    have hcell := own_step (xs := xs) hs hok
    rw [List.getD_eq_getElem?_getD, hown] at hcell
    have hok2 := okW_step (xs := xs) hok
    have hov2 : slopeI x = a.dx * a.dy ↔ b = true := by
      unfold overB at hov
      rw [hpx.1] at hov
      rw [← hov]
      simp
    have hsl := slope_pm (x : Int)
    obtain ⟨d1, d2, _⟩ := hok
    have hdd : a.dx * a.dy = 1 ∨ a.dx * a.dy = -1 := by rcases d1 with d1 | d1 <;> rcases d2 with d2 | d2 <;> rw [d1, d2] <;> omega
    refine ⟨i, a.dx * a.dy, ho, hdd, ?_, ?_⟩
    · cases b
      · have : ¬ slopeI x = a.dx * a.dy := fun e => by simpa using hov2.1 e
        rw [if_neg (by simp)]
        omega
      · rw [if_pos rfl]
        exact (hov2.2 rfl).symm
    · have hlo : loX (stepW wd ht xs a) = (if a.dx = 1 then (x : Int) else x - 1) ∧ loY (stepW wd ht xs a) = (if a.dy = 1 then (y : Int) else y - 1) := by
        rw [hst]
        unfold loX loY
        simp only [Wk.nx, Wk.ny] at hpx ⊢
        rw [hpx.1, hpx.2]
        rcases d1 with d1 | d1 <;> rcases d2 with d2 | d2 <;> rw [d1, d2] <;> simp <;> omega
      have hget : ∀ i' j' : Nat, (i' : Int) = loX (stepW wd ht xs a) + 1 → (j' : Int) = loY (stepW wd ht xs a) + 1 → cellC wd ht xs i' j' = i := fun i' j' h1 h2 => by
        rw [cell_of hs hok2 h1 h2, ← hcell]
        rfl
      rcases d1 with d1 | d1 <;> rcases d2 with d2 | d2
      · rw [d1, d2] at hlo ⊢
        simp only [if_pos] at hlo
        rw [if_pos (by decide), hpr2.1]
        exact hget _ _ (by omega) (by omega)
      · rw [d1, d2] at hlo ⊢
        simp at hlo
        rw [if_neg (by decide)]
        exact hget _ _ (by omega) (by omega)
      · rw [d1, d2] at hlo ⊢
        simp at hlo
        rw [if_neg (by decide), ← hpr2.2]
        exact hget _ _ (by omega) (by omega)
      · rw [d1, d2] at hlo ⊢
        simp at hlo
        rw [if_pos (by decide)]
        exact hget _ _ (by omega) (by omega)
  obtain ⟨i, s, w1, w2, w3, w4⟩ := way true
  obtain ⟨k, t, v1, v2, v3, v4⟩ := way false
  simp only [if_true] at w3
  rw [if_neg (by simp)] at v3
  refine ⟨i, k, w1, v1, ?_⟩
  by_cases h1 : s = 1
  · rw [if_pos h1] at w4
    rw [if_neg (by omega)] at v4
    exact .inl ⟨w4, v4⟩
  · rw [if_neg h1] at w4
    rw [if_pos (by omega)] at v4
    exact .inr ⟨v4, w4⟩
theorem ind_nat (c d : Nat) : ind (c : Int) (d : Int) = if d = c then 1 else 0 := by
  unfold ind
  by_cases h : d = c
  · rw [if_pos h, if_pos (by omega)]
  · rw [if_neg h, if_neg (by omega)]
theorem met_ind {i j a b : Nat} {u v : Int} (hab : a ≠ b) (h : (u = i ∧ v = j) ∨ (u = j ∧ v = i)) : ind (a : Int) u * ind (b : Int) v + ind (a : Int) v * ind (b : Int) u = if Both (i : Int) (j : Int) a b then 1 else 0 := by
  unfold Both
  rcases h with ⟨rfl, rfl⟩ | ⟨rfl, rfl⟩ <;> rw [ind_nat, ind_nat, ind_nat, ind_nat] <;> repeat' split
  all_goals omega
/-- one, where a crossing is of two curves -/
noncomputable def metB (wd ht : Int) (xs : List Int) (a b k : Nat) : Int := if Both ((dirC wd ht xs true).getD k 0) ((dirC wd ht xs false).getD k 0) a b then 1 else 0
theorem met_even (hs : Sz wd ht) (hl : (xs.length : Int) = innerN wd ht) (hv : ∀ x ∈ xs, 0 ≤ x ∧ x ≤ 2) {a b : Nat} (hab : a ≠ b) : su (zTo xs xs.length).length (metB wd ht xs a b) % 2 = 0 := by
  obtain ⟨W, rfl⟩ : ∃ W : Nat, wd = (W : Int) := ⟨wd.toNat, by have := hs.1; omega⟩
  obtain ⟨H, rfl⟩ : ∃ H : Nat, ht = (H : Int) := ⟨ht.toNat, by have := hs.2.2.1; omega⟩
  have hout : ∀ (d : Nat) (i j : Nat), ¬ (1 ≤ i ∧ (i : Int) ≤ 2 * W ∧ 1 ≤ j ∧ (j : Int) ≤ 2 * H) → ind (d : Int) (cellC W H xs i j) = 0 := fun d i j h => by
    rw [cell_out h]
    unfold ind
    rw [if_neg (by omega)]
  have h1 := meet_even (X := 2 * W) (Y := 2 * H) (c := cellC W H xs) (K := fun x y => kindP W H xs x y) (a := a) (b := b) (by omega) (fun j => hout a 0 j (by omega)) (fun j => hout b 0 j (by omega)) (fun i => hout b i 0 (by omega)) (fun j => hout b _ j (by omega)) (fun i => hout b i _ (by omega))
    (fun x y hx hy ho => pairs_at hs (by unfold OnP; omega))
  rw [← cross_sum, show xs.length = (innerN (W : Int) (H : Int)).toNat by omega, ← points_sum (by have := hs.1; omega) (by have := hs.2.1; omega) (by have := hs.2.2.1; omega) (by have := hs.2.2.2; omega)]
  refine Eq.trans ?_ h1
  congr 1
  refine su_congr fun x hx => su_congr fun y hy => ?_
  by_cases ho : (x + y) % 2 = 1
  · have hod : od (x + y) = 1 := by unfold od; rw [ho]; rfl
    rw [hod, Int.one_mul]
    have hp : OnP W H x y := by unfold OnP; omega
    unfold both
    by_cases hi : innB W H x y = true
    · rw [if_pos hi]
      have hi2 := innB_iff.1 hi
      have he : ¬ Edge W H x y := by unfold Edge; omega
      obtain ⟨_, _, k, v, e1, e2, e3, e4⟩ := inner_at (xs := xs) hs hp he hl
      have hkj : (numI W x y).toNat = k := by omega
      rw [hkj]
      have hgd : xs.getD k 0 = v := by rw [List.getD_eq_getElem?_getD, e3]; rfl
      have hvb := hv v (List.mem_of_getElem? e3)
      by_cases h0 : xs.getD k 0 = 0
      · rw [if_pos h0]
        obtain ⟨i, j, c1, c2, c3⟩ := cells_at hs hl hp he e1 e2 h0
        have hkp : kindP W H xs x y = 0 := by
          unfold kindP
          rw [if_neg (by unfold FlipX; omega), if_neg (by unfold FlipY; omega)]
        rw [if_pos hkp]
        unfold metB
        rw [getD_some c1, getD_some c2]
        exact (met_ind hab c3).symm
      · rw [if_neg h0]
        have hkp : ¬ kindP W H xs x y = 0 := by
          unfold kindP
          by_cases hx : FlipX W H xs x y
          · rw [if_pos hx]; omega
          · rw [if_neg hx]
            have hy : FlipY W H xs x y := by unfold FlipX at hx; unfold FlipY; omega
            rw [if_pos hy]; omega
        rw [if_neg hkp]
    · rw [if_neg hi]
      have hkp : ¬ kindP W H xs x y = 0 := fun hk => hi (innB_iff.2 (by
        unfold kindP at hk
        have g := flip_facts (xs := xs) hp
        by_cases hx : FlipX W H xs x y
        · rw [if_pos hx] at hk; omega
        · rw [if_neg hx] at hk
          by_cases hy : FlipY W H xs x y
          · rw [if_pos hy] at hk; omega
          · have g1 := g.1 hx
            have g2 := g.2.1 hy
            omega))
      rw [if_neg hkp]
  · have hod : od (x + y) = 0 := by unfold od; omega
    rw [hod, Int.zero_mul, if_neg (fun hi => ho (innB_iff.1 hi).1)]
/-- the sum of the signs of the crossings of two curves is even -/
theorem lk_even (hs : Sz wd ht) (hl : (xs.length : Int) = innerN wd ht) (hv : ∀ x ∈ xs, 0 ≤ x ∧ x ≤ 2) {a b : Nat} (hab : a ≠ b) : lkG (dirC wd ht xs true) (dirC wd ht xs false) (sgL wd ht xs) (zTo xs xs.length).length a b % 2 = 0 := by
  rw [← met_even hs hl hv hab]
  have hlen : (sgL wd ht xs).length = (zTo xs xs.length).length := sgL_len hs hl
  obtain ⟨m, hm⟩ : ∃ m, m = (zTo xs xs.length).length := ⟨_, rfl⟩
  rw [← hm] at hlen ⊢
  have : ∀ k, k ≤ m → lkG (dirC wd ht xs true) (dirC wd ht xs false) (sgL wd ht xs) k a b % 2 = su k (metB wd ht xs a b) % 2 := by
    intro k
    induction k with
    | zero => intro _; rfl
    | succ k ih =>
      intro hk
      have := ih (by omega)
      rw [lkG]
      have hm2 : su (k + 1) (metB wd ht xs a b) = su k (metB wd ht xs a b) + (if Both ((dirC wd ht xs true).getD k 0) ((dirC wd ht xs false).getD k 0) a b then 1 else 0) := rfl
      rw [hm2]
      have hsg := sgL_pm (List.mem_of_getElem? (List.getElem?_eq_getElem (l := sgL wd ht xs) (i := k) (by omega)))
      have hsd : (sgL wd ht xs).getD k 0 = (sgL wd ht xs)[k] := by rw [List.getD_eq_getElem?_getD, List.getElem?_eq_getElem (by omega)]; rfl
      rw [hsd]
      split <;> omega
  exact this m (Nat.le_refl _)
end

/-- sums of a table: its diagonal, and what lies left of it -/
def diagS (f : Nat → Nat → Int) (n : Nat) : Int := su n (fun a => f a a)
def leftS (f : Nat → Nat → Int) (n : Nat) : Int := su n (fun a => su a (fun b => f a b))
theorem diagS_next (f : Nat → Nat → Int) (n : Nat) : diagS f (n + 1) = diagS f n + f n n := rfl
theorem leftS_next (f : Nat → Nat → Int) (n : Nat) : leftS f (n + 1) = leftS f n + su n (fun b => f n b) := rfl
section
variable {oc uc sg : List Int}
theorem hit_row (i j k n : Nat) (s : Int) (hk : k ≤ n) : su k (fun b => if Both (i : Int) (j : Int) n b then s else 0) = if (i = n ∧ j < k) ∨ (j = n ∧ i < k) then s else 0 := by
  induction k with
  | zero => rw [if_neg (by omega)]; rfl
  | succ k ih =>
    show su k _ + (if Both (i : Int) (j : Int) n k then s else 0) = _
    rw [ih (by omega)]
    by_cases h1 : i = n ∧ j = k
    · rw [if_neg (by omega), if_pos (by unfold Both; omega), if_pos (by omega)]; omega
    · by_cases h2 : j = n ∧ i = k
      · rw [if_neg (by omega), if_pos (by unfold Both; omega), if_pos (by omega)]; omega
      · by_cases h3 : (i = n ∧ j < k) ∨ (j = n ∧ i < k)
        · rw [if_pos h3, if_neg (by unfold Both; omega), if_pos (by omega)]; omega
        · rw [if_neg h3, if_neg (by unfold Both; omega), if_neg (by omega)]; omega
theorem hit_all (i j : Nat) (s : Int) : ∀ n : Nat, diagS (fun a b => if Both (i : Int) (j : Int) a b then s else 0) n + leftS (fun a b => if Both (i : Int) (j : Int) a b then s else 0) n = if i < n ∧ j < n then s else 0
  | 0 => rfl
  | n + 1 => by
    have ih := hit_all i j s n
    have hr := hit_row i j n n s (Nat.le_refl _)
    rw [diagS_next, leftS_next, hr]
    have hd : (if Both (i : Int) (j : Int) n n then s else 0) = if i = n ∧ j = n then s else 0 := by
      by_cases h : i = n ∧ j = n
      · rw [if_pos h, if_pos (by unfold Both; omega)]
      · rw [if_neg h, if_neg (by unfold Both; omega)]
    rw [hd]
    by_cases h1 : i < n ∧ j < n
    · rw [if_pos h1] at ih
      rw [if_neg (by omega), if_neg (by omega), if_pos (by omega)]
      omega
    · rw [if_neg h1] at ih
      by_cases h2 : i = n ∧ j = n
      · rw [if_pos h2, if_neg (by omega), if_pos (by omega)]
        omega
      · rw [if_neg h2]
        by_cases h3 : (i = n ∧ j < n) ∨ (j = n ∧ i < n)
        · rw [if_pos h3, if_pos (by omega)]
          omega
        · rw [if_neg h3, if_neg (by omega)]
          omega
theorem table_sum {n : Nat} : ∀ k : Nat, (∀ l, l < k → ∃ i j : Nat, oc.getD l 0 = i ∧ uc.getD l 0 = j ∧ i < n ∧ j < n) →
    diagS (lkG oc uc sg k) n + leftS (lkG oc uc sg k) n = su k (fun l => sg.getD l 0)
  | 0, _ => by
    have h1 : diagS (lkG oc uc sg 0) n = 0 := su_zero fun _ _ => rfl
    have h2 : leftS (lkG oc uc sg 0) n = 0 := su_zero fun _ _ => su_zero fun _ _ => rfl
    rw [h1, h2]
    rfl
  | k + 1, h => by
    have ih := table_sum k (n := n) fun l hl => h l (by omega)
    obtain ⟨i, j, e1, e2, hi, hj⟩ := h k (by omega)
    have ha := hit_all i j (sg.getD k 0) n
    rw [if_pos ⟨hi, hj⟩] at ha
    have d1 : diagS (lkG oc uc sg (k + 1)) n = diagS (lkG oc uc sg k) n + diagS (fun a b => if Both (i : Int) (j : Int) a b then sg.getD k 0 else 0) n := by
      unfold diagS
      rw [← su_add]
      refine su_congr fun a _ => ?_
      rw [lkG, e1, e2]
    have d2 : leftS (lkG oc uc sg (k + 1)) n = leftS (lkG oc uc sg k) n + leftS (fun a b => if Both (i : Int) (j : Int) a b then sg.getD k 0 else 0) n := by
      unfold leftS
      rw [← su_add]
      refine su_congr fun a _ => ?_
      rw [← su_add]
      refine su_congr fun b _ => ?_
      rw [lkG, e1, e2]
    have e : su (k + 1) (fun l => sg.getD l 0) = su k (fun l => sg.getD l 0) + sg.getD k 0 := rfl
    rw [d1, d2, e]
    omega
end
end Go.Proofs.Ytmjeafklafjakaa
