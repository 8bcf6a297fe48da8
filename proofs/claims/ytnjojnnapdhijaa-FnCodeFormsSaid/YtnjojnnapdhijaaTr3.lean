/-
  Contracts: one step of a walker, of the reference and of the program. Conditions: a valid panel's sides and breaks, a walker of the panel.
-/
import Derived.Test.YtnjojnnapdhijaaTr2
import Derived.BigQuiet
namespace Go.Proofs.Ytnjojnnapdhijaa
open Go.RowKit
set_option linter.unusedVariables false
/-- an inner point's break -/
theorem inner_at {wd ht x y : Int} {xs : List Int} (hs : Sz wd ht) (hp : OnP wd ht x y) (he : ¬ Edge wd ht x y) (hl : (xs.length : Int) = innerN wd ht) :
    (1 ≤ x ∧ x ≤ 16) ∧ (1 ≤ y ∧ y ≤ 16) ∧ ∃ (k : Nat) (v : Int), numI wd x y = (k : Int) ∧ k < xs.length ∧ xs[k]? = some v ∧ kindI wd ht xs x y = v := by
  unfold OnP at hp
  have hq := he
  unfold Edge at he
  have hss := hs
  obtain ⟨s1, s2, s3, s4⟩ := hss
  refine ⟨by omega, by omega, ?_⟩
  clear s1 s2 s3 s4
  have h0 : 0 ≤ numI wd x y ∧ numI wd x y < innerN wd ht := by
    obtain ⟨s1, s2, s3, s4⟩ := hs
    unfold numI innerN
    rcases eight s1 s2 with rfl | rfl | rfl | rfl | rfl | rfl | rfl | rfl <;> omega
  have hk : (numI wd x y).toNat < xs.length := by omega
  refine ⟨(numI wd x y).toNat, xs[(numI wd x y).toNat], by omega, hk, List.getElem?_eq_getElem hk, ?_⟩
  unfold kindI
  rw [if_neg hq]
  simp [List.getD, List.getElem?_eq_getElem hk]
theorem edge_true {wd ht x y : Int} (h : Edge wd ht x y) : edgeB wd ht x y = true := by unfold edgeB; simp [h]
theorem edge_false {wd ht x y : Int} (h : ¬ Edge wd ht x y) : edgeB wd ht x y = false := by unfold edgeB; simp [h]
/-- the ways of a step -/
theorem step_ways {wd ht : Int} {xs : List Int} {a : Wk} (hs : Sz wd ht) (ha : OkW wd ht a) (P : Int → Int → Prop)
    (h1 : a.nx = 0 → ¬ a.ny = 0 → ¬ a.ny = 2 * ht → Edge wd ht a.nx a.ny → P (-a.dx) a.dy)
    (h2 : ¬ a.nx = 0 → a.nx = 2 * wd → ¬ a.ny = 0 → ¬ a.ny = 2 * ht → Edge wd ht a.nx a.ny → P (-a.dx) a.dy)
    (h3 : ¬ a.nx = 0 → ¬ a.nx = 2 * wd → a.ny = 0 → Edge wd ht a.nx a.ny → P a.dx (-a.dy))
    (h4 : ¬ a.nx = 0 → ¬ a.nx = 2 * wd → ¬ a.ny = 0 → a.ny = 2 * ht → Edge wd ht a.nx a.ny → P a.dx (-a.dy))
    (h5 : ¬ a.nx = 0 → ¬ a.nx = 2 * wd → ¬ a.ny = 0 → ¬ a.ny = 2 * ht → ¬ Edge wd ht a.nx a.ny → kindI wd ht xs a.nx a.ny = 1 → P (-a.dx) a.dy)
    (h6 : ¬ a.nx = 0 → ¬ a.nx = 2 * wd → ¬ a.ny = 0 → ¬ a.ny = 2 * ht → ¬ Edge wd ht a.nx a.ny → kindI wd ht xs a.nx a.ny = 2 → P a.dx (-a.dy))
    (h7 : ¬ a.nx = 0 → ¬ a.nx = 2 * wd → ¬ a.ny = 0 → ¬ a.ny = 2 * ht → ¬ Edge wd ht a.nx a.ny → ¬ kindI wd ht xs a.nx a.ny = 1 → ¬ kindI wd ht xs a.nx a.ny = 2 → P a.dx a.dy) :
    P (stepW wd ht xs a).dx (stepW wd ht xs a).dy := by
  obtain ⟨_, _, _, h⟩ := ha
  show P (if FlipX wd ht xs a.nx a.ny then -a.dx else a.dx) (if FlipY wd ht xs a.nx a.ny then -a.dy else a.dy)
  unfold OnP at h
  obtain ⟨s1, s2, s3, s4⟩ := hs
  have yes : ∀ {p : Prop} [Decidable p] {x y : Int}, p → (if p then x else y) = x := fun h => if_pos h
  have no : ∀ {p : Prop} [Decidable p] {x y : Int}, ¬ p → (if p then x else y) = y := fun h => if_neg h
  by_cases he : Edge wd ht a.nx a.ny
  · have k0 : kindI wd ht xs a.nx a.ny = 0 := by unfold kindI; rw [if_pos he]
    have he' := he
    unfold Edge at he'
    by_cases c1 : a.nx = 0
    · rw [yes (.inl c1), no (by unfold FlipY; omega)]
      exact h1 c1 (by omega) (by omega) he
    · by_cases c2 : a.nx = 2 * wd
      · rw [yes (.inr (.inl c2)), no (by unfold FlipY; omega)]
        exact h2 c1 c2 (by omega) (by omega) he
      · by_cases c3 : a.ny = 0
        · rw [no (by unfold FlipX; omega), yes (.inl c3)]
          exact h3 c1 c2 c3 he
        · rw [no (by unfold FlipX; omega), yes (by unfold FlipY; omega)]
          exact h4 c1 c2 c3 (by omega) he
  · have he' := he
    unfold Edge at he'
    by_cases k1 : kindI wd ht xs a.nx a.ny = 1
    · rw [yes (.inr (.inr k1)), no (by unfold FlipY; omega)]
      exact h5 (by omega) (by omega) (by omega) (by omega) he k1
    · by_cases k2 : kindI wd ht xs a.nx a.ny = 2
      · rw [no (by unfold FlipX; omega), yes (.inr (.inr k2))]
        exact h6 (by omega) (by omega) (by omega) (by omega) he k2
      · rw [no (by unfold FlipX; omega), no (by unfold FlipY; omega)]
        exact h7 (by omega) (by omega) (by omega) (by omega) he k1 k2
theorem size_drewN (w : World) (n : Nat) : (w.drewN n).heap.size = w.heap.size := rfl
theorem eqt {x y : Int} (h : x = y) : (x == y) = true := by simp [h]
theorem eqf {x y : Int} (h : ¬ x = y) : (x == y) = false := by simp [h]
set_option maxHeartbeats 8000000 in
theorem l03Step_any (b0 : Nat) (wd ht : Int) (A : Option Addr) (c : Nat) (xs : List Int) (a : Wk) (w : World) (hp : PA w b0 wd ht A c xs) (hs : Sz wd ht) (hl : (xs.length : Int) = innerN wd ht) (ha : OkW wd ht a) :
    Calls Try.prog 170 #[.pointer (some ⟨b0, 0, none⟩), .agg #[.int .i64 a.x, .int .i64 a.y, .int .i64 a.dx, .int .i64 a.dy]] w (RetV w (.agg #[.int .i64 a.nx, .int .i64 a.ny, .int .i64 (stepW wd ht xs a).dx, .int .i64 (stepW wd ht xs a).dy])) := by
  obtain ⟨g1, g2, g3, g4, g5, g6⟩ := ha.bounds hs
  have hON := hide ha.2.2.2
  have hsz := hide hs
  have HX := hide (fun W => l03Next_any wd ht a W hs ha)
  refine step_ways hs ha (fun u v => Calls Try.prog 170 #[.pointer (some ⟨b0, 0, none⟩), .agg #[.int .i64 a.x, .int .i64 a.y, .int .i64 a.dx, .int .i64 a.dy]] w (RetV w (.agg #[.int .i64 a.nx, .int .i64 a.ny, .int .i64 u, .int .i64 v]))) ?_ ?_ ?_ ?_ ?_ ?_ ?_
  · intro h1 h3 h4 he
    have hkE := hide (inner_at (xs := xs) hsz.out hON.out)
    have hE := hide (edge_true he)
    clear hkE he ha
    obtain ⟨x, y, dx, dy⟩ := a
    simp only [Wk.nx, Wk.ny] at *
    generalize hX : x + dx = X at *
    generalize hY : y + dy = Y at *
    have HXY := hide (And.intro hX hY)
    clear hX hY
    have ex0 : (X == 0) = true := eqt (by omega)
    have dx0 := dec_of ex0
    have ey0 : (Y == 0) = false := eqf (by omega)
    have dy0 := dec_of ey0
    have ey2 : (Y == 2 * ht) = false := eqf (by omega)
    have dy2 := dec_of ey2
    clear h1 h3 h4
    obtain ⟨s1, s2, s3, s4⟩ := hsz.out
    obtain ⟨wka_x1, wkb_x1, wkc_x1, wkd_x1⟩ := ((Bx.new_ w (w.heap.size) 112 #[.int .i64 x, .int .i64 y, .int .i64 dx, .int .i64 dy] (by simp)).alloc (.cells #[.int .i64 0, .int .i64 0, .int .i64 0, .int .i64 0] 112)).four
    go_enter Try.func170, Try.ntmps170
    go_wp2_with fail
    refine ((HX.out _)).mono ?_
    rintro e w1 ⟨rfl, hb1⟩
    have wk_1 := ((Bx.new_ w (w.heap.size) 112 #[.int .i64 x, .int .i64 y, .int .i64 dx, .int .i64 dy] (by simp)).alloc (.cells #[.int .i64 0, .int .i64 0, .int .i64 0, .int .i64 0] 112)).below hb1
    obtain ⟨wka_1, wkb_1, wkc_1, wkd_1⟩ := (wk_1).four
    have r_1 := (Bx.new_ (w.alloc (.cells #[.int .i64 x, .int .i64 y, .int .i64 dx, .int .i64 dy] 112)) (w.heap.size + 1) 112 #[.int .i64 0, .int .i64 0, .int .i64 0, .int .i64 0] (by simp)).below hb1
    obtain ⟨ra_1, rb_1, rc_1, rd_1⟩ := (r_1).four
    have rf0_1 := (r_1).frozen 0
    have rf1_1 := (r_1).frozen 1
    have rf2_1 := (r_1).frozen 2
    have rf3_1 := (r_1).frozen 3
    have z_1 : ((w.alloc (.cells #[.int .i64 x, .int .i64 y, .int .i64 dx, .int .i64 dy] 112)).alloc (.cells #[.int .i64 0, .int .i64 0, .int .i64 0, .int .i64 0] 112)).heap.size ≤ w1.heap.size := hb1.size
    simp only [World.size_alloc] at z_1
    have B_1 := (((Below.refl w.heap.size w).alloc (by first | omega | (simp; omega) | simp) (.cells #[.int .i64 x, .int .i64 y, .int .i64 dx, .int .i64 dy] 112)).alloc (by first | omega | (simp; omega) | simp) (.cells #[.int .i64 0, .int .i64 0, .int .i64 0, .int .i64 0] 112)).trans (hb1.mono (by first | omega | (simp; omega) | simp))
    obtain ⟨wka_b, wkb_b, wkc_b, wkd_b⟩ := ((wk_1).alloc (.cells #[.int .i64 X, .int .i64 Y] 110)).four
    obtain ⟨pa_b, pb_b⟩ := (Bx.new_ w1 (w1.heap.size) 110 #[.int .i64 X, .int .i64 Y] (by simp)).two
    obtain ⟨pa_x3, pb_x3⟩ := ((Bx.new_ w1 (w1.heap.size) 110 #[.int .i64 X, .int .i64 Y] (by simp)).alloc (.cells #[.int .i64 X, .int .i64 Y, .int .i64 dx, .int .i64 dy] 112)).two
    obtain ⟨oa_x3, ob_x3, oc_x3, od_x3⟩ := (Bx.new_ (w1.alloc (.cells #[.int .i64 X, .int .i64 Y] 110)) (w1.heap.size + 1) 112 #[.int .i64 X, .int .i64 Y, .int .i64 dx, .int .i64 dy] (by simp)).four
    have of0_x3 := (Bx.new_ (w1.alloc (.cells #[.int .i64 X, .int .i64 Y] 110)) (w1.heap.size + 1) 112 #[.int .i64 X, .int .i64 Y, .int .i64 dx, .int .i64 dy] (by simp)).frozen 0
    have of1_x3 := (Bx.new_ (w1.alloc (.cells #[.int .i64 X, .int .i64 Y] 110)) (w1.heap.size + 1) 112 #[.int .i64 X, .int .i64 Y, .int .i64 dx, .int .i64 dy] (by simp)).frozen 1
    have of2_x3 := (Bx.new_ (w1.alloc (.cells #[.int .i64 X, .int .i64 Y] 110)) (w1.heap.size + 1) 112 #[.int .i64 X, .int .i64 Y, .int .i64 dx, .int .i64 dy] (by simp)).frozen 2
    have of3_x3 := (Bx.new_ (w1.alloc (.cells #[.int .i64 X, .int .i64 Y] 110)) (w1.heap.size + 1) 112 #[.int .i64 X, .int .i64 Y, .int .i64 dx, .int .i64 dy] (by simp)).frozen 3
    obtain ⟨wka_x3, wkb_x3, wkc_x3, wkd_x3⟩ := (((wk_1).alloc (.cells #[.int .i64 X, .int .i64 Y] 110)).alloc (.cells #[.int .i64 X, .int .i64 Y, .int .i64 dx, .int .i64 dy] 112)).four
    have c0_1 := (hp.below (((B_1).alloc (by first | omega | (simp; omega) | simp) (.cells #[.int .i64 X, .int .i64 Y] 110)).alloc (by first | omega | (simp; omega) | simp) (.cells #[.int .i64 X, .int .i64 Y, .int .i64 dx, .int .i64 dy] 112))).c0
    have c1_1 := (hp.below (((B_1).alloc (by first | omega | (simp; omega) | simp) (.cells #[.int .i64 X, .int .i64 Y] 110)).alloc (by first | omega | (simp; omega) | simp) (.cells #[.int .i64 X, .int .i64 Y, .int .i64 dx, .int .i64 dy] 112))).c1
    go_wp2_with fail
    go_quiet (fail)
    rename Nat => n1
    obtain ⟨pa_x4, pb_x4⟩ := ((((Bx.new_ w1 (w1.heap.size) 110 #[.int .i64 X, .int .i64 Y] (by simp)).alloc (.cells #[.int .i64 X, .int .i64 Y, .int .i64 dx, .int .i64 dy] 112)).drewN n1).far (p := ⟨(w1.heap.size + 1), 2, none⟩) (by first | omega | (simp; omega) | simp) (.int .i64 (-dx))).two
    obtain ⟨oa_x4, ob_x4, oc_x4, od_x4⟩ := (((Bx.new_ (w1.alloc (.cells #[.int .i64 X, .int .i64 Y] 110)) (w1.heap.size + 1) 112 #[.int .i64 X, .int .i64 Y, .int .i64 dx, .int .i64 dy] (by simp)).drewN n1).set_ 2 (.int .i64 (-dx))).four
    have of0_x4 := (((Bx.new_ (w1.alloc (.cells #[.int .i64 X, .int .i64 Y] 110)) (w1.heap.size + 1) 112 #[.int .i64 X, .int .i64 Y, .int .i64 dx, .int .i64 dy] (by simp)).drewN n1).set_ 2 (.int .i64 (-dx))).frozen 0
    have of1_x4 := (((Bx.new_ (w1.alloc (.cells #[.int .i64 X, .int .i64 Y] 110)) (w1.heap.size + 1) 112 #[.int .i64 X, .int .i64 Y, .int .i64 dx, .int .i64 dy] (by simp)).drewN n1).set_ 2 (.int .i64 (-dx))).frozen 1
    have of2_x4 := (((Bx.new_ (w1.alloc (.cells #[.int .i64 X, .int .i64 Y] 110)) (w1.heap.size + 1) 112 #[.int .i64 X, .int .i64 Y, .int .i64 dx, .int .i64 dy] (by simp)).drewN n1).set_ 2 (.int .i64 (-dx))).frozen 2
    have of3_x4 := (((Bx.new_ (w1.alloc (.cells #[.int .i64 X, .int .i64 Y] 110)) (w1.heap.size + 1) 112 #[.int .i64 X, .int .i64 Y, .int .i64 dx, .int .i64 dy] (by simp)).drewN n1).set_ 2 (.int .i64 (-dx))).frozen 3
    have c0_2 := (hp.below ((below_drewN' (((B_1).alloc (by first | omega | (simp; omega) | simp) (.cells #[.int .i64 X, .int .i64 Y] 110)).alloc (by first | omega | (simp; omega) | simp) (.cells #[.int .i64 X, .int .i64 Y, .int .i64 dx, .int .i64 dy] 112)) n1).setCell (p := ⟨(w1.heap.size + 1), 2, none⟩) (by first | omega | (simp; omega) | simp) (.int .i64 (-dx)))).c0
    have c1_2 := (hp.below ((below_drewN' (((B_1).alloc (by first | omega | (simp; omega) | simp) (.cells #[.int .i64 X, .int .i64 Y] 110)).alloc (by first | omega | (simp; omega) | simp) (.cells #[.int .i64 X, .int .i64 Y, .int .i64 dx, .int .i64 dy] 112)) n1).setCell (p := ⟨(w1.heap.size + 1), 2, none⟩) (by first | omega | (simp; omega) | simp) (.int .i64 (-dx)))).c1
    go_wp2_with fail
    go_quiet (fail)
    rename Nat => n2
    obtain ⟨pa_x5, pb_x5⟩ := (((((Bx.new_ w1 (w1.heap.size) 110 #[.int .i64 X, .int .i64 Y] (by simp)).alloc (.cells #[.int .i64 X, .int .i64 Y, .int .i64 dx, .int .i64 dy] 112)).drewN n1).far (p := ⟨(w1.heap.size + 1), 2, none⟩) (by first | omega | (simp; omega) | simp) (.int .i64 (-dx))).drewN n2).two
    obtain ⟨oa_x5, ob_x5, oc_x5, od_x5⟩ := ((((Bx.new_ (w1.alloc (.cells #[.int .i64 X, .int .i64 Y] 110)) (w1.heap.size + 1) 112 #[.int .i64 X, .int .i64 Y, .int .i64 dx, .int .i64 dy] (by simp)).drewN n1).set_ 2 (.int .i64 (-dx))).drewN n2).four
    have of0_x5 := ((((Bx.new_ (w1.alloc (.cells #[.int .i64 X, .int .i64 Y] 110)) (w1.heap.size + 1) 112 #[.int .i64 X, .int .i64 Y, .int .i64 dx, .int .i64 dy] (by simp)).drewN n1).set_ 2 (.int .i64 (-dx))).drewN n2).frozen 0
    have of1_x5 := ((((Bx.new_ (w1.alloc (.cells #[.int .i64 X, .int .i64 Y] 110)) (w1.heap.size + 1) 112 #[.int .i64 X, .int .i64 Y, .int .i64 dx, .int .i64 dy] (by simp)).drewN n1).set_ 2 (.int .i64 (-dx))).drewN n2).frozen 1
    have of2_x5 := ((((Bx.new_ (w1.alloc (.cells #[.int .i64 X, .int .i64 Y] 110)) (w1.heap.size + 1) 112 #[.int .i64 X, .int .i64 Y, .int .i64 dx, .int .i64 dy] (by simp)).drewN n1).set_ 2 (.int .i64 (-dx))).drewN n2).frozen 2
    have of3_x5 := ((((Bx.new_ (w1.alloc (.cells #[.int .i64 X, .int .i64 Y] 110)) (w1.heap.size + 1) 112 #[.int .i64 X, .int .i64 Y, .int .i64 dx, .int .i64 dy] (by simp)).drewN n1).set_ 2 (.int .i64 (-dx))).drewN n2).frozen 3
    go_wp2_with fail
    refine ((l02Edge_any b0 wd ht X Y A c xs _ (hp.below (below_drewN' ((below_drewN' (((B_1).alloc (by first | omega | (simp; omega) | simp) (.cells #[.int .i64 X, .int .i64 Y] 110)).alloc (by first | omega | (simp; omega) | simp) (.cells #[.int .i64 X, .int .i64 Y, .int .i64 dx, .int .i64 dy] 112)) n1).setCell (p := ⟨(w1.heap.size + 1), 2, none⟩) (by first | omega | (simp; omega) | simp) (.int .i64 (-dx))) n2)) hsz.out)).mono ?_
    rintro e w3 ⟨rfl, hb3⟩
    have wk_3 := ((((((wk_1).alloc (.cells #[.int .i64 X, .int .i64 Y] 110)).alloc (.cells #[.int .i64 X, .int .i64 Y, .int .i64 dx, .int .i64 dy] 112)).drewN n1).far (p := ⟨(w1.heap.size + 1), 2, none⟩) (by first | omega | (simp; omega) | simp) (.int .i64 (-dx))).drewN n2).below hb3
    obtain ⟨wka_3, wkb_3, wkc_3, wkd_3⟩ := (wk_3).four
    have r_3 := ((((((r_1).alloc (.cells #[.int .i64 X, .int .i64 Y] 110)).alloc (.cells #[.int .i64 X, .int .i64 Y, .int .i64 dx, .int .i64 dy] 112)).drewN n1).far (p := ⟨(w1.heap.size + 1), 2, none⟩) (by first | omega | (simp; omega) | simp) (.int .i64 (-dx))).drewN n2).below hb3
    obtain ⟨ra_3, rb_3, rc_3, rd_3⟩ := (r_3).four
    have rf0_3 := (r_3).frozen 0
    have rf1_3 := (r_3).frozen 1
    have rf2_3 := (r_3).frozen 2
    have rf3_3 := (r_3).frozen 3
    have p_3 := (((((Bx.new_ w1 (w1.heap.size) 110 #[.int .i64 X, .int .i64 Y] (by simp)).alloc (.cells #[.int .i64 X, .int .i64 Y, .int .i64 dx, .int .i64 dy] 112)).drewN n1).far (p := ⟨(w1.heap.size + 1), 2, none⟩) (by first | omega | (simp; omega) | simp) (.int .i64 (-dx))).drewN n2).below hb3
    obtain ⟨pa_3, pb_3⟩ := (p_3).two
    have o_3 := ((((Bx.new_ (w1.alloc (.cells #[.int .i64 X, .int .i64 Y] 110)) (w1.heap.size + 1) 112 #[.int .i64 X, .int .i64 Y, .int .i64 dx, .int .i64 dy] (by simp)).drewN n1).set_ 2 (.int .i64 (-dx))).drewN n2).below hb3
    obtain ⟨oa_3, ob_3, oc_3, od_3⟩ := (o_3).four
    have of0_3 := (o_3).frozen 0
    have of1_3 := (o_3).frozen 1
    have of2_3 := (o_3).frozen 2
    have of3_3 := (o_3).frozen 3
    have z_3 : (((((w1.alloc (.cells #[.int .i64 X, .int .i64 Y] 110)).alloc (.cells #[.int .i64 X, .int .i64 Y, .int .i64 dx, .int .i64 dy] 112)).drewN n1).setCell ⟨(w1.heap.size + 1), 2, none⟩ (.int .i64 (-dx))).drewN n2).heap.size ≤ w3.heap.size := hb3.size
    simp only [World.size_alloc, size_drewN, World.size_setCell] at z_3
    have B_3 := (below_drewN' ((below_drewN' (((B_1).alloc (by first | omega | (simp; omega) | simp) (.cells #[.int .i64 X, .int .i64 Y] 110)).alloc (by first | omega | (simp; omega) | simp) (.cells #[.int .i64 X, .int .i64 Y, .int .i64 dx, .int .i64 dy] 112)) n1).setCell (p := ⟨(w1.heap.size + 1), 2, none⟩) (by first | omega | (simp; omega) | simp) (.int .i64 (-dx))) n2).trans (hb3.mono (by first | omega | (simp; omega) | simp))
    rw [hE.out]
    obtain ⟨ra_c, rb_c, rc_c, rd_c⟩ := (r_3).four
    have rf0_c := (r_3).frozen 0
    have rf1_c := (r_3).frozen 1
    have rf2_c := (r_3).frozen 2
    have rf3_c := (r_3).frozen 3
    obtain ⟨oa_c, ob_c, oc_c, od_c⟩ := (o_3).four
    have of0_c := (o_3).frozen 0
    have of1_c := (o_3).frozen 1
    have of2_c := (o_3).frozen 2
    have of3_c := (o_3).frozen 3
    obtain ⟨pa_c, pb_c⟩ := (p_3).two
    go_wp2_with fail
    obtain ⟨ra_z, rb_z, rc_z, rd_z⟩ := (((((r_3).set_ 0 (.int .i64 (X))).set_ 1 (.int .i64 (Y))).set_ 2 (.int .i64 (-dx))).set_ 3 (.int .i64 (dy))).four
    have rf0_z := (((((r_3).set_ 0 (.int .i64 (X))).set_ 1 (.int .i64 (Y))).set_ 2 (.int .i64 (-dx))).set_ 3 (.int .i64 (dy))).frozen 0
    have rf1_z := (((((r_3).set_ 0 (.int .i64 (X))).set_ 1 (.int .i64 (Y))).set_ 2 (.int .i64 (-dx))).set_ 3 (.int .i64 (dy))).frozen 1
    have rf2_z := (((((r_3).set_ 0 (.int .i64 (X))).set_ 1 (.int .i64 (Y))).set_ 2 (.int .i64 (-dx))).set_ 3 (.int .i64 (dy))).frozen 2
    have rf3_z := (((((r_3).set_ 0 (.int .i64 (X))).set_ 1 (.int .i64 (Y))).set_ 2 (.int .i64 (-dx))).set_ 3 (.int .i64 (dy))).frozen 3
    refine bodyPost_ret (v := .agg #[.int .i64 X, .int .i64 Y, .int .i64 (-dx), .int .i64 (dy)]) (by simp [results, Try.results170, go_sem, ra_z, rb_z, rc_z, rd_z]) rfl ?_
    exact ⟨rfl, (((((B_3).setCell (p := ⟨(w.heap.size + 1), 0, none⟩) (by first | omega | (simp; omega) | simp) (.int .i64 (X))).setCell (p := ⟨(w.heap.size + 1), 1, none⟩) (by first | omega | (simp; omega) | simp) (.int .i64 (Y))).setCell (p := ⟨(w.heap.size + 1), 2, none⟩) (by first | omega | (simp; omega) | simp) (.int .i64 (-dx))).setCell (p := ⟨(w.heap.size + 1), 3, none⟩) (by first | omega | (simp; omega) | simp) (.int .i64 (dy)))⟩
  · intro h1 h2 h3 h4 he
    have hkE := hide (inner_at (xs := xs) hsz.out hON.out)
    have hE := hide (edge_true he)
    clear hkE he ha
    obtain ⟨x, y, dx, dy⟩ := a
    simp only [Wk.nx, Wk.ny] at *
    generalize hX : x + dx = X at *
    generalize hY : y + dy = Y at *
    have HXY := hide (And.intro hX hY)
    clear hX hY
    have ex0 : (X == 0) = false := eqf (by omega)
    have dx0 := dec_of ex0
    have ex2 : (X == 2 * wd) = true := eqt (by omega)
    have dx2 := dec_of ex2
    have ey0 : (Y == 0) = false := eqf (by omega)
    have dy0 := dec_of ey0
    have ey2 : (Y == 2 * ht) = false := eqf (by omega)
    have dy2 := dec_of ey2
    clear h1 h2 h3 h4
    obtain ⟨s1, s2, s3, s4⟩ := hsz.out
    obtain ⟨wka_x1, wkb_x1, wkc_x1, wkd_x1⟩ := ((Bx.new_ w (w.heap.size) 112 #[.int .i64 x, .int .i64 y, .int .i64 dx, .int .i64 dy] (by simp)).alloc (.cells #[.int .i64 0, .int .i64 0, .int .i64 0, .int .i64 0] 112)).four
    go_enter Try.func170, Try.ntmps170
    go_wp2_with fail
    refine ((HX.out _)).mono ?_
    rintro e w1 ⟨rfl, hb1⟩
    have wk_1 := ((Bx.new_ w (w.heap.size) 112 #[.int .i64 x, .int .i64 y, .int .i64 dx, .int .i64 dy] (by simp)).alloc (.cells #[.int .i64 0, .int .i64 0, .int .i64 0, .int .i64 0] 112)).below hb1
    obtain ⟨wka_1, wkb_1, wkc_1, wkd_1⟩ := (wk_1).four
    have r_1 := (Bx.new_ (w.alloc (.cells #[.int .i64 x, .int .i64 y, .int .i64 dx, .int .i64 dy] 112)) (w.heap.size + 1) 112 #[.int .i64 0, .int .i64 0, .int .i64 0, .int .i64 0] (by simp)).below hb1
    obtain ⟨ra_1, rb_1, rc_1, rd_1⟩ := (r_1).four
    have rf0_1 := (r_1).frozen 0
    have rf1_1 := (r_1).frozen 1
    have rf2_1 := (r_1).frozen 2
    have rf3_1 := (r_1).frozen 3
    have z_1 : ((w.alloc (.cells #[.int .i64 x, .int .i64 y, .int .i64 dx, .int .i64 dy] 112)).alloc (.cells #[.int .i64 0, .int .i64 0, .int .i64 0, .int .i64 0] 112)).heap.size ≤ w1.heap.size := hb1.size
    simp only [World.size_alloc] at z_1
    have B_1 := (((Below.refl w.heap.size w).alloc (by first | omega | (simp; omega) | simp) (.cells #[.int .i64 x, .int .i64 y, .int .i64 dx, .int .i64 dy] 112)).alloc (by first | omega | (simp; omega) | simp) (.cells #[.int .i64 0, .int .i64 0, .int .i64 0, .int .i64 0] 112)).trans (hb1.mono (by first | omega | (simp; omega) | simp))
    obtain ⟨wka_b, wkb_b, wkc_b, wkd_b⟩ := ((wk_1).alloc (.cells #[.int .i64 X, .int .i64 Y] 110)).four
    obtain ⟨pa_b, pb_b⟩ := (Bx.new_ w1 (w1.heap.size) 110 #[.int .i64 X, .int .i64 Y] (by simp)).two
    obtain ⟨pa_x3, pb_x3⟩ := ((Bx.new_ w1 (w1.heap.size) 110 #[.int .i64 X, .int .i64 Y] (by simp)).alloc (.cells #[.int .i64 X, .int .i64 Y, .int .i64 dx, .int .i64 dy] 112)).two
    obtain ⟨oa_x3, ob_x3, oc_x3, od_x3⟩ := (Bx.new_ (w1.alloc (.cells #[.int .i64 X, .int .i64 Y] 110)) (w1.heap.size + 1) 112 #[.int .i64 X, .int .i64 Y, .int .i64 dx, .int .i64 dy] (by simp)).four
    have of0_x3 := (Bx.new_ (w1.alloc (.cells #[.int .i64 X, .int .i64 Y] 110)) (w1.heap.size + 1) 112 #[.int .i64 X, .int .i64 Y, .int .i64 dx, .int .i64 dy] (by simp)).frozen 0
    have of1_x3 := (Bx.new_ (w1.alloc (.cells #[.int .i64 X, .int .i64 Y] 110)) (w1.heap.size + 1) 112 #[.int .i64 X, .int .i64 Y, .int .i64 dx, .int .i64 dy] (by simp)).frozen 1
    have of2_x3 := (Bx.new_ (w1.alloc (.cells #[.int .i64 X, .int .i64 Y] 110)) (w1.heap.size + 1) 112 #[.int .i64 X, .int .i64 Y, .int .i64 dx, .int .i64 dy] (by simp)).frozen 2
    have of3_x3 := (Bx.new_ (w1.alloc (.cells #[.int .i64 X, .int .i64 Y] 110)) (w1.heap.size + 1) 112 #[.int .i64 X, .int .i64 Y, .int .i64 dx, .int .i64 dy] (by simp)).frozen 3
    obtain ⟨wka_x3, wkb_x3, wkc_x3, wkd_x3⟩ := (((wk_1).alloc (.cells #[.int .i64 X, .int .i64 Y] 110)).alloc (.cells #[.int .i64 X, .int .i64 Y, .int .i64 dx, .int .i64 dy] 112)).four
    have c0_1 := (hp.below (((B_1).alloc (by first | omega | (simp; omega) | simp) (.cells #[.int .i64 X, .int .i64 Y] 110)).alloc (by first | omega | (simp; omega) | simp) (.cells #[.int .i64 X, .int .i64 Y, .int .i64 dx, .int .i64 dy] 112))).c0
    have c1_1 := (hp.below (((B_1).alloc (by first | omega | (simp; omega) | simp) (.cells #[.int .i64 X, .int .i64 Y] 110)).alloc (by first | omega | (simp; omega) | simp) (.cells #[.int .i64 X, .int .i64 Y, .int .i64 dx, .int .i64 dy] 112))).c1
    go_wp2_with fail
    go_quiet (fail)
    rename Nat => n1
    obtain ⟨pa_x4, pb_x4⟩ := ((((Bx.new_ w1 (w1.heap.size) 110 #[.int .i64 X, .int .i64 Y] (by simp)).alloc (.cells #[.int .i64 X, .int .i64 Y, .int .i64 dx, .int .i64 dy] 112)).drewN n1).far (p := ⟨(w1.heap.size + 1), 2, none⟩) (by first | omega | (simp; omega) | simp) (.int .i64 (-dx))).two
    obtain ⟨oa_x4, ob_x4, oc_x4, od_x4⟩ := (((Bx.new_ (w1.alloc (.cells #[.int .i64 X, .int .i64 Y] 110)) (w1.heap.size + 1) 112 #[.int .i64 X, .int .i64 Y, .int .i64 dx, .int .i64 dy] (by simp)).drewN n1).set_ 2 (.int .i64 (-dx))).four
    have of0_x4 := (((Bx.new_ (w1.alloc (.cells #[.int .i64 X, .int .i64 Y] 110)) (w1.heap.size + 1) 112 #[.int .i64 X, .int .i64 Y, .int .i64 dx, .int .i64 dy] (by simp)).drewN n1).set_ 2 (.int .i64 (-dx))).frozen 0
    have of1_x4 := (((Bx.new_ (w1.alloc (.cells #[.int .i64 X, .int .i64 Y] 110)) (w1.heap.size + 1) 112 #[.int .i64 X, .int .i64 Y, .int .i64 dx, .int .i64 dy] (by simp)).drewN n1).set_ 2 (.int .i64 (-dx))).frozen 1
    have of2_x4 := (((Bx.new_ (w1.alloc (.cells #[.int .i64 X, .int .i64 Y] 110)) (w1.heap.size + 1) 112 #[.int .i64 X, .int .i64 Y, .int .i64 dx, .int .i64 dy] (by simp)).drewN n1).set_ 2 (.int .i64 (-dx))).frozen 2
    have of3_x4 := (((Bx.new_ (w1.alloc (.cells #[.int .i64 X, .int .i64 Y] 110)) (w1.heap.size + 1) 112 #[.int .i64 X, .int .i64 Y, .int .i64 dx, .int .i64 dy] (by simp)).drewN n1).set_ 2 (.int .i64 (-dx))).frozen 3
    have c0_2 := (hp.below ((below_drewN' (((B_1).alloc (by first | omega | (simp; omega) | simp) (.cells #[.int .i64 X, .int .i64 Y] 110)).alloc (by first | omega | (simp; omega) | simp) (.cells #[.int .i64 X, .int .i64 Y, .int .i64 dx, .int .i64 dy] 112)) n1).setCell (p := ⟨(w1.heap.size + 1), 2, none⟩) (by first | omega | (simp; omega) | simp) (.int .i64 (-dx)))).c0
    have c1_2 := (hp.below ((below_drewN' (((B_1).alloc (by first | omega | (simp; omega) | simp) (.cells #[.int .i64 X, .int .i64 Y] 110)).alloc (by first | omega | (simp; omega) | simp) (.cells #[.int .i64 X, .int .i64 Y, .int .i64 dx, .int .i64 dy] 112)) n1).setCell (p := ⟨(w1.heap.size + 1), 2, none⟩) (by first | omega | (simp; omega) | simp) (.int .i64 (-dx)))).c1
    go_wp2_with fail
    go_quiet (fail)
    rename Nat => n2
    obtain ⟨pa_x5, pb_x5⟩ := (((((Bx.new_ w1 (w1.heap.size) 110 #[.int .i64 X, .int .i64 Y] (by simp)).alloc (.cells #[.int .i64 X, .int .i64 Y, .int .i64 dx, .int .i64 dy] 112)).drewN n1).far (p := ⟨(w1.heap.size + 1), 2, none⟩) (by first | omega | (simp; omega) | simp) (.int .i64 (-dx))).drewN n2).two
    obtain ⟨oa_x5, ob_x5, oc_x5, od_x5⟩ := ((((Bx.new_ (w1.alloc (.cells #[.int .i64 X, .int .i64 Y] 110)) (w1.heap.size + 1) 112 #[.int .i64 X, .int .i64 Y, .int .i64 dx, .int .i64 dy] (by simp)).drewN n1).set_ 2 (.int .i64 (-dx))).drewN n2).four
    have of0_x5 := ((((Bx.new_ (w1.alloc (.cells #[.int .i64 X, .int .i64 Y] 110)) (w1.heap.size + 1) 112 #[.int .i64 X, .int .i64 Y, .int .i64 dx, .int .i64 dy] (by simp)).drewN n1).set_ 2 (.int .i64 (-dx))).drewN n2).frozen 0
    have of1_x5 := ((((Bx.new_ (w1.alloc (.cells #[.int .i64 X, .int .i64 Y] 110)) (w1.heap.size + 1) 112 #[.int .i64 X, .int .i64 Y, .int .i64 dx, .int .i64 dy] (by simp)).drewN n1).set_ 2 (.int .i64 (-dx))).drewN n2).frozen 1
    have of2_x5 := ((((Bx.new_ (w1.alloc (.cells #[.int .i64 X, .int .i64 Y] 110)) (w1.heap.size + 1) 112 #[.int .i64 X, .int .i64 Y, .int .i64 dx, .int .i64 dy] (by simp)).drewN n1).set_ 2 (.int .i64 (-dx))).drewN n2).frozen 2
    have of3_x5 := ((((Bx.new_ (w1.alloc (.cells #[.int .i64 X, .int .i64 Y] 110)) (w1.heap.size + 1) 112 #[.int .i64 X, .int .i64 Y, .int .i64 dx, .int .i64 dy] (by simp)).drewN n1).set_ 2 (.int .i64 (-dx))).drewN n2).frozen 3
    go_wp2_with fail
    refine ((l02Edge_any b0 wd ht X Y A c xs _ (hp.below (below_drewN' ((below_drewN' (((B_1).alloc (by first | omega | (simp; omega) | simp) (.cells #[.int .i64 X, .int .i64 Y] 110)).alloc (by first | omega | (simp; omega) | simp) (.cells #[.int .i64 X, .int .i64 Y, .int .i64 dx, .int .i64 dy] 112)) n1).setCell (p := ⟨(w1.heap.size + 1), 2, none⟩) (by first | omega | (simp; omega) | simp) (.int .i64 (-dx))) n2)) hsz.out)).mono ?_
    rintro e w3 ⟨rfl, hb3⟩
    have wk_3 := ((((((wk_1).alloc (.cells #[.int .i64 X, .int .i64 Y] 110)).alloc (.cells #[.int .i64 X, .int .i64 Y, .int .i64 dx, .int .i64 dy] 112)).drewN n1).far (p := ⟨(w1.heap.size + 1), 2, none⟩) (by first | omega | (simp; omega) | simp) (.int .i64 (-dx))).drewN n2).below hb3
    obtain ⟨wka_3, wkb_3, wkc_3, wkd_3⟩ := (wk_3).four
    have r_3 := ((((((r_1).alloc (.cells #[.int .i64 X, .int .i64 Y] 110)).alloc (.cells #[.int .i64 X, .int .i64 Y, .int .i64 dx, .int .i64 dy] 112)).drewN n1).far (p := ⟨(w1.heap.size + 1), 2, none⟩) (by first | omega | (simp; omega) | simp) (.int .i64 (-dx))).drewN n2).below hb3
    obtain ⟨ra_3, rb_3, rc_3, rd_3⟩ := (r_3).four
    have rf0_3 := (r_3).frozen 0
    have rf1_3 := (r_3).frozen 1
    have rf2_3 := (r_3).frozen 2
    have rf3_3 := (r_3).frozen 3
    have p_3 := (((((Bx.new_ w1 (w1.heap.size) 110 #[.int .i64 X, .int .i64 Y] (by simp)).alloc (.cells #[.int .i64 X, .int .i64 Y, .int .i64 dx, .int .i64 dy] 112)).drewN n1).far (p := ⟨(w1.heap.size + 1), 2, none⟩) (by first | omega | (simp; omega) | simp) (.int .i64 (-dx))).drewN n2).below hb3
    obtain ⟨pa_3, pb_3⟩ := (p_3).two
    have o_3 := ((((Bx.new_ (w1.alloc (.cells #[.int .i64 X, .int .i64 Y] 110)) (w1.heap.size + 1) 112 #[.int .i64 X, .int .i64 Y, .int .i64 dx, .int .i64 dy] (by simp)).drewN n1).set_ 2 (.int .i64 (-dx))).drewN n2).below hb3
    obtain ⟨oa_3, ob_3, oc_3, od_3⟩ := (o_3).four
    have of0_3 := (o_3).frozen 0
    have of1_3 := (o_3).frozen 1
    have of2_3 := (o_3).frozen 2
    have of3_3 := (o_3).frozen 3
    have z_3 : (((((w1.alloc (.cells #[.int .i64 X, .int .i64 Y] 110)).alloc (.cells #[.int .i64 X, .int .i64 Y, .int .i64 dx, .int .i64 dy] 112)).drewN n1).setCell ⟨(w1.heap.size + 1), 2, none⟩ (.int .i64 (-dx))).drewN n2).heap.size ≤ w3.heap.size := hb3.size
    simp only [World.size_alloc, size_drewN, World.size_setCell] at z_3
    have B_3 := (below_drewN' ((below_drewN' (((B_1).alloc (by first | omega | (simp; omega) | simp) (.cells #[.int .i64 X, .int .i64 Y] 110)).alloc (by first | omega | (simp; omega) | simp) (.cells #[.int .i64 X, .int .i64 Y, .int .i64 dx, .int .i64 dy] 112)) n1).setCell (p := ⟨(w1.heap.size + 1), 2, none⟩) (by first | omega | (simp; omega) | simp) (.int .i64 (-dx))) n2).trans (hb3.mono (by first | omega | (simp; omega) | simp))
    rw [hE.out]
    obtain ⟨ra_c, rb_c, rc_c, rd_c⟩ := (r_3).four
    have rf0_c := (r_3).frozen 0
    have rf1_c := (r_3).frozen 1
    have rf2_c := (r_3).frozen 2
    have rf3_c := (r_3).frozen 3
    obtain ⟨oa_c, ob_c, oc_c, od_c⟩ := (o_3).four
    have of0_c := (o_3).frozen 0
    have of1_c := (o_3).frozen 1
    have of2_c := (o_3).frozen 2
    have of3_c := (o_3).frozen 3
    obtain ⟨pa_c, pb_c⟩ := (p_3).two
    go_wp2_with fail
    obtain ⟨ra_z, rb_z, rc_z, rd_z⟩ := (((((r_3).set_ 0 (.int .i64 (X))).set_ 1 (.int .i64 (Y))).set_ 2 (.int .i64 (-dx))).set_ 3 (.int .i64 (dy))).four
    have rf0_z := (((((r_3).set_ 0 (.int .i64 (X))).set_ 1 (.int .i64 (Y))).set_ 2 (.int .i64 (-dx))).set_ 3 (.int .i64 (dy))).frozen 0
    have rf1_z := (((((r_3).set_ 0 (.int .i64 (X))).set_ 1 (.int .i64 (Y))).set_ 2 (.int .i64 (-dx))).set_ 3 (.int .i64 (dy))).frozen 1
    have rf2_z := (((((r_3).set_ 0 (.int .i64 (X))).set_ 1 (.int .i64 (Y))).set_ 2 (.int .i64 (-dx))).set_ 3 (.int .i64 (dy))).frozen 2
    have rf3_z := (((((r_3).set_ 0 (.int .i64 (X))).set_ 1 (.int .i64 (Y))).set_ 2 (.int .i64 (-dx))).set_ 3 (.int .i64 (dy))).frozen 3
    refine bodyPost_ret (v := .agg #[.int .i64 X, .int .i64 Y, .int .i64 (-dx), .int .i64 (dy)]) (by simp [results, Try.results170, go_sem, ra_z, rb_z, rc_z, rd_z]) rfl ?_
    exact ⟨rfl, (((((B_3).setCell (p := ⟨(w.heap.size + 1), 0, none⟩) (by first | omega | (simp; omega) | simp) (.int .i64 (X))).setCell (p := ⟨(w.heap.size + 1), 1, none⟩) (by first | omega | (simp; omega) | simp) (.int .i64 (Y))).setCell (p := ⟨(w.heap.size + 1), 2, none⟩) (by first | omega | (simp; omega) | simp) (.int .i64 (-dx))).setCell (p := ⟨(w.heap.size + 1), 3, none⟩) (by first | omega | (simp; omega) | simp) (.int .i64 (dy)))⟩
  · intro h1 h2 h3 he
    have hkE := hide (inner_at (xs := xs) hsz.out hON.out)
    have hE := hide (edge_true he)
    clear hkE he ha
    obtain ⟨x, y, dx, dy⟩ := a
    simp only [Wk.nx, Wk.ny] at *
    generalize hX : x + dx = X at *
    generalize hY : y + dy = Y at *
    have HXY := hide (And.intro hX hY)
    clear hX hY
    have ex0 : (X == 0) = false := eqf (by omega)
    have dx0 := dec_of ex0
    have ex2 : (X == 2 * wd) = false := eqf (by omega)
    have dx2 := dec_of ex2
    have ey0 : (Y == 0) = true := eqt (by omega)
    have dy0 := dec_of ey0
    clear h1 h2 h3
    obtain ⟨s1, s2, s3, s4⟩ := hsz.out
    obtain ⟨wka_x1, wkb_x1, wkc_x1, wkd_x1⟩ := ((Bx.new_ w (w.heap.size) 112 #[.int .i64 x, .int .i64 y, .int .i64 dx, .int .i64 dy] (by simp)).alloc (.cells #[.int .i64 0, .int .i64 0, .int .i64 0, .int .i64 0] 112)).four
    go_enter Try.func170, Try.ntmps170
    go_wp2_with fail
    refine ((HX.out _)).mono ?_
    rintro e w1 ⟨rfl, hb1⟩
    have wk_1 := ((Bx.new_ w (w.heap.size) 112 #[.int .i64 x, .int .i64 y, .int .i64 dx, .int .i64 dy] (by simp)).alloc (.cells #[.int .i64 0, .int .i64 0, .int .i64 0, .int .i64 0] 112)).below hb1
    obtain ⟨wka_1, wkb_1, wkc_1, wkd_1⟩ := (wk_1).four
    have r_1 := (Bx.new_ (w.alloc (.cells #[.int .i64 x, .int .i64 y, .int .i64 dx, .int .i64 dy] 112)) (w.heap.size + 1) 112 #[.int .i64 0, .int .i64 0, .int .i64 0, .int .i64 0] (by simp)).below hb1
    obtain ⟨ra_1, rb_1, rc_1, rd_1⟩ := (r_1).four
    have rf0_1 := (r_1).frozen 0
    have rf1_1 := (r_1).frozen 1
    have rf2_1 := (r_1).frozen 2
    have rf3_1 := (r_1).frozen 3
    have z_1 : ((w.alloc (.cells #[.int .i64 x, .int .i64 y, .int .i64 dx, .int .i64 dy] 112)).alloc (.cells #[.int .i64 0, .int .i64 0, .int .i64 0, .int .i64 0] 112)).heap.size ≤ w1.heap.size := hb1.size
    simp only [World.size_alloc] at z_1
    have B_1 := (((Below.refl w.heap.size w).alloc (by first | omega | (simp; omega) | simp) (.cells #[.int .i64 x, .int .i64 y, .int .i64 dx, .int .i64 dy] 112)).alloc (by first | omega | (simp; omega) | simp) (.cells #[.int .i64 0, .int .i64 0, .int .i64 0, .int .i64 0] 112)).trans (hb1.mono (by first | omega | (simp; omega) | simp))
    obtain ⟨wka_b, wkb_b, wkc_b, wkd_b⟩ := ((wk_1).alloc (.cells #[.int .i64 X, .int .i64 Y] 110)).four
    obtain ⟨pa_b, pb_b⟩ := (Bx.new_ w1 (w1.heap.size) 110 #[.int .i64 X, .int .i64 Y] (by simp)).two
    obtain ⟨pa_x3, pb_x3⟩ := ((Bx.new_ w1 (w1.heap.size) 110 #[.int .i64 X, .int .i64 Y] (by simp)).alloc (.cells #[.int .i64 X, .int .i64 Y, .int .i64 dx, .int .i64 dy] 112)).two
    obtain ⟨oa_x3, ob_x3, oc_x3, od_x3⟩ := (Bx.new_ (w1.alloc (.cells #[.int .i64 X, .int .i64 Y] 110)) (w1.heap.size + 1) 112 #[.int .i64 X, .int .i64 Y, .int .i64 dx, .int .i64 dy] (by simp)).four
    have of0_x3 := (Bx.new_ (w1.alloc (.cells #[.int .i64 X, .int .i64 Y] 110)) (w1.heap.size + 1) 112 #[.int .i64 X, .int .i64 Y, .int .i64 dx, .int .i64 dy] (by simp)).frozen 0
    have of1_x3 := (Bx.new_ (w1.alloc (.cells #[.int .i64 X, .int .i64 Y] 110)) (w1.heap.size + 1) 112 #[.int .i64 X, .int .i64 Y, .int .i64 dx, .int .i64 dy] (by simp)).frozen 1
    have of2_x3 := (Bx.new_ (w1.alloc (.cells #[.int .i64 X, .int .i64 Y] 110)) (w1.heap.size + 1) 112 #[.int .i64 X, .int .i64 Y, .int .i64 dx, .int .i64 dy] (by simp)).frozen 2
    have of3_x3 := (Bx.new_ (w1.alloc (.cells #[.int .i64 X, .int .i64 Y] 110)) (w1.heap.size + 1) 112 #[.int .i64 X, .int .i64 Y, .int .i64 dx, .int .i64 dy] (by simp)).frozen 3
    obtain ⟨wka_x3, wkb_x3, wkc_x3, wkd_x3⟩ := (((wk_1).alloc (.cells #[.int .i64 X, .int .i64 Y] 110)).alloc (.cells #[.int .i64 X, .int .i64 Y, .int .i64 dx, .int .i64 dy] 112)).four
    have c0_1 := (hp.below (((B_1).alloc (by first | omega | (simp; omega) | simp) (.cells #[.int .i64 X, .int .i64 Y] 110)).alloc (by first | omega | (simp; omega) | simp) (.cells #[.int .i64 X, .int .i64 Y, .int .i64 dx, .int .i64 dy] 112))).c0
    have c1_1 := (hp.below (((B_1).alloc (by first | omega | (simp; omega) | simp) (.cells #[.int .i64 X, .int .i64 Y] 110)).alloc (by first | omega | (simp; omega) | simp) (.cells #[.int .i64 X, .int .i64 Y, .int .i64 dx, .int .i64 dy] 112))).c1
    go_wp2_with fail
    go_quiet (fail)
    rename Nat => n1
    obtain ⟨pa_x4, pb_x4⟩ := (((Bx.new_ w1 (w1.heap.size) 110 #[.int .i64 X, .int .i64 Y] (by simp)).alloc (.cells #[.int .i64 X, .int .i64 Y, .int .i64 dx, .int .i64 dy] 112)).drewN n1).two
    obtain ⟨oa_x4, ob_x4, oc_x4, od_x4⟩ := ((Bx.new_ (w1.alloc (.cells #[.int .i64 X, .int .i64 Y] 110)) (w1.heap.size + 1) 112 #[.int .i64 X, .int .i64 Y, .int .i64 dx, .int .i64 dy] (by simp)).drewN n1).four
    have of0_x4 := ((Bx.new_ (w1.alloc (.cells #[.int .i64 X, .int .i64 Y] 110)) (w1.heap.size + 1) 112 #[.int .i64 X, .int .i64 Y, .int .i64 dx, .int .i64 dy] (by simp)).drewN n1).frozen 0
    have of1_x4 := ((Bx.new_ (w1.alloc (.cells #[.int .i64 X, .int .i64 Y] 110)) (w1.heap.size + 1) 112 #[.int .i64 X, .int .i64 Y, .int .i64 dx, .int .i64 dy] (by simp)).drewN n1).frozen 1
    have of2_x4 := ((Bx.new_ (w1.alloc (.cells #[.int .i64 X, .int .i64 Y] 110)) (w1.heap.size + 1) 112 #[.int .i64 X, .int .i64 Y, .int .i64 dx, .int .i64 dy] (by simp)).drewN n1).frozen 2
    have of3_x4 := ((Bx.new_ (w1.alloc (.cells #[.int .i64 X, .int .i64 Y] 110)) (w1.heap.size + 1) 112 #[.int .i64 X, .int .i64 Y, .int .i64 dx, .int .i64 dy] (by simp)).drewN n1).frozen 3
    have c0_2 := (hp.below (below_drewN' (((B_1).alloc (by first | omega | (simp; omega) | simp) (.cells #[.int .i64 X, .int .i64 Y] 110)).alloc (by first | omega | (simp; omega) | simp) (.cells #[.int .i64 X, .int .i64 Y, .int .i64 dx, .int .i64 dy] 112)) n1)).c0
    have c1_2 := (hp.below (below_drewN' (((B_1).alloc (by first | omega | (simp; omega) | simp) (.cells #[.int .i64 X, .int .i64 Y] 110)).alloc (by first | omega | (simp; omega) | simp) (.cells #[.int .i64 X, .int .i64 Y, .int .i64 dx, .int .i64 dy] 112)) n1)).c1
    go_wp2_with fail
    go_quiet (fail)
    rename Nat => n2
    obtain ⟨pa_x4, pb_x4⟩ := ((((Bx.new_ w1 (w1.heap.size) 110 #[.int .i64 X, .int .i64 Y] (by simp)).alloc (.cells #[.int .i64 X, .int .i64 Y, .int .i64 dx, .int .i64 dy] 112)).drewN (n1 + n2)).far (p := ⟨(w1.heap.size + 1), 3, none⟩) (by first | omega | (simp; omega) | simp) (.int .i64 (-dy))).two
    obtain ⟨oa_x4, ob_x4, oc_x4, od_x4⟩ := (((Bx.new_ (w1.alloc (.cells #[.int .i64 X, .int .i64 Y] 110)) (w1.heap.size + 1) 112 #[.int .i64 X, .int .i64 Y, .int .i64 dx, .int .i64 dy] (by simp)).drewN (n1 + n2)).set_ 3 (.int .i64 (-dy))).four
    have of0_x4 := (((Bx.new_ (w1.alloc (.cells #[.int .i64 X, .int .i64 Y] 110)) (w1.heap.size + 1) 112 #[.int .i64 X, .int .i64 Y, .int .i64 dx, .int .i64 dy] (by simp)).drewN (n1 + n2)).set_ 3 (.int .i64 (-dy))).frozen 0
    have of1_x4 := (((Bx.new_ (w1.alloc (.cells #[.int .i64 X, .int .i64 Y] 110)) (w1.heap.size + 1) 112 #[.int .i64 X, .int .i64 Y, .int .i64 dx, .int .i64 dy] (by simp)).drewN (n1 + n2)).set_ 3 (.int .i64 (-dy))).frozen 1
    have of2_x4 := (((Bx.new_ (w1.alloc (.cells #[.int .i64 X, .int .i64 Y] 110)) (w1.heap.size + 1) 112 #[.int .i64 X, .int .i64 Y, .int .i64 dx, .int .i64 dy] (by simp)).drewN (n1 + n2)).set_ 3 (.int .i64 (-dy))).frozen 2
    have of3_x4 := (((Bx.new_ (w1.alloc (.cells #[.int .i64 X, .int .i64 Y] 110)) (w1.heap.size + 1) 112 #[.int .i64 X, .int .i64 Y, .int .i64 dx, .int .i64 dy] (by simp)).drewN (n1 + n2)).set_ 3 (.int .i64 (-dy))).frozen 3
    go_wp2_with fail
    refine ((l02Edge_any b0 wd ht X Y A c xs _ (hp.below ((below_drewN' (((B_1).alloc (by first | omega | (simp; omega) | simp) (.cells #[.int .i64 X, .int .i64 Y] 110)).alloc (by first | omega | (simp; omega) | simp) (.cells #[.int .i64 X, .int .i64 Y, .int .i64 dx, .int .i64 dy] 112)) (n1 + n2)).setCell (p := ⟨(w1.heap.size + 1), 3, none⟩) (by first | omega | (simp; omega) | simp) (.int .i64 (-dy)))) hsz.out)).mono ?_
    rintro e w3 ⟨rfl, hb3⟩
    have wk_3 := (((((wk_1).alloc (.cells #[.int .i64 X, .int .i64 Y] 110)).alloc (.cells #[.int .i64 X, .int .i64 Y, .int .i64 dx, .int .i64 dy] 112)).drewN (n1 + n2)).far (p := ⟨(w1.heap.size + 1), 3, none⟩) (by first | omega | (simp; omega) | simp) (.int .i64 (-dy))).below hb3
    obtain ⟨wka_3, wkb_3, wkc_3, wkd_3⟩ := (wk_3).four
    have r_3 := (((((r_1).alloc (.cells #[.int .i64 X, .int .i64 Y] 110)).alloc (.cells #[.int .i64 X, .int .i64 Y, .int .i64 dx, .int .i64 dy] 112)).drewN (n1 + n2)).far (p := ⟨(w1.heap.size + 1), 3, none⟩) (by first | omega | (simp; omega) | simp) (.int .i64 (-dy))).below hb3
    obtain ⟨ra_3, rb_3, rc_3, rd_3⟩ := (r_3).four
    have rf0_3 := (r_3).frozen 0
    have rf1_3 := (r_3).frozen 1
    have rf2_3 := (r_3).frozen 2
    have rf3_3 := (r_3).frozen 3
    have p_3 := ((((Bx.new_ w1 (w1.heap.size) 110 #[.int .i64 X, .int .i64 Y] (by simp)).alloc (.cells #[.int .i64 X, .int .i64 Y, .int .i64 dx, .int .i64 dy] 112)).drewN (n1 + n2)).far (p := ⟨(w1.heap.size + 1), 3, none⟩) (by first | omega | (simp; omega) | simp) (.int .i64 (-dy))).below hb3
    obtain ⟨pa_3, pb_3⟩ := (p_3).two
    have o_3 := (((Bx.new_ (w1.alloc (.cells #[.int .i64 X, .int .i64 Y] 110)) (w1.heap.size + 1) 112 #[.int .i64 X, .int .i64 Y, .int .i64 dx, .int .i64 dy] (by simp)).drewN (n1 + n2)).set_ 3 (.int .i64 (-dy))).below hb3
    obtain ⟨oa_3, ob_3, oc_3, od_3⟩ := (o_3).four
    have of0_3 := (o_3).frozen 0
    have of1_3 := (o_3).frozen 1
    have of2_3 := (o_3).frozen 2
    have of3_3 := (o_3).frozen 3
    have z_3 : ((((w1.alloc (.cells #[.int .i64 X, .int .i64 Y] 110)).alloc (.cells #[.int .i64 X, .int .i64 Y, .int .i64 dx, .int .i64 dy] 112)).drewN (n1 + n2)).setCell ⟨(w1.heap.size + 1), 3, none⟩ (.int .i64 (-dy))).heap.size ≤ w3.heap.size := hb3.size
    simp only [World.size_alloc, size_drewN, World.size_setCell] at z_3
    have B_3 := ((below_drewN' (((B_1).alloc (by first | omega | (simp; omega) | simp) (.cells #[.int .i64 X, .int .i64 Y] 110)).alloc (by first | omega | (simp; omega) | simp) (.cells #[.int .i64 X, .int .i64 Y, .int .i64 dx, .int .i64 dy] 112)) (n1 + n2)).setCell (p := ⟨(w1.heap.size + 1), 3, none⟩) (by first | omega | (simp; omega) | simp) (.int .i64 (-dy))).trans (hb3.mono (by first | omega | (simp; omega) | simp))
    rw [hE.out]
    obtain ⟨ra_c, rb_c, rc_c, rd_c⟩ := (r_3).four
    have rf0_c := (r_3).frozen 0
    have rf1_c := (r_3).frozen 1
    have rf2_c := (r_3).frozen 2
    have rf3_c := (r_3).frozen 3
    obtain ⟨oa_c, ob_c, oc_c, od_c⟩ := (o_3).four
    have of0_c := (o_3).frozen 0
    have of1_c := (o_3).frozen 1
    have of2_c := (o_3).frozen 2
    have of3_c := (o_3).frozen 3
    obtain ⟨pa_c, pb_c⟩ := (p_3).two
    go_wp2_with fail
    obtain ⟨ra_z, rb_z, rc_z, rd_z⟩ := (((((r_3).set_ 0 (.int .i64 (X))).set_ 1 (.int .i64 (Y))).set_ 2 (.int .i64 (dx))).set_ 3 (.int .i64 (-dy))).four
    have rf0_z := (((((r_3).set_ 0 (.int .i64 (X))).set_ 1 (.int .i64 (Y))).set_ 2 (.int .i64 (dx))).set_ 3 (.int .i64 (-dy))).frozen 0
    have rf1_z := (((((r_3).set_ 0 (.int .i64 (X))).set_ 1 (.int .i64 (Y))).set_ 2 (.int .i64 (dx))).set_ 3 (.int .i64 (-dy))).frozen 1
    have rf2_z := (((((r_3).set_ 0 (.int .i64 (X))).set_ 1 (.int .i64 (Y))).set_ 2 (.int .i64 (dx))).set_ 3 (.int .i64 (-dy))).frozen 2
    have rf3_z := (((((r_3).set_ 0 (.int .i64 (X))).set_ 1 (.int .i64 (Y))).set_ 2 (.int .i64 (dx))).set_ 3 (.int .i64 (-dy))).frozen 3
    refine bodyPost_ret (v := .agg #[.int .i64 X, .int .i64 Y, .int .i64 (dx), .int .i64 (-dy)]) (by simp [results, Try.results170, go_sem, ra_z, rb_z, rc_z, rd_z]) rfl ?_
    exact ⟨rfl, (((((B_3).setCell (p := ⟨(w.heap.size + 1), 0, none⟩) (by first | omega | (simp; omega) | simp) (.int .i64 (X))).setCell (p := ⟨(w.heap.size + 1), 1, none⟩) (by first | omega | (simp; omega) | simp) (.int .i64 (Y))).setCell (p := ⟨(w.heap.size + 1), 2, none⟩) (by first | omega | (simp; omega) | simp) (.int .i64 (dx))).setCell (p := ⟨(w.heap.size + 1), 3, none⟩) (by first | omega | (simp; omega) | simp) (.int .i64 (-dy)))⟩
  · intro h1 h2 h3 h4 he
    have hkE := hide (inner_at (xs := xs) hsz.out hON.out)
    have hE := hide (edge_true he)
    clear hkE he ha
    obtain ⟨x, y, dx, dy⟩ := a
    simp only [Wk.nx, Wk.ny] at *
    generalize hX : x + dx = X at *
    generalize hY : y + dy = Y at *
    have HXY := hide (And.intro hX hY)
    clear hX hY
    have ex0 : (X == 0) = false := eqf (by omega)
    have dx0 := dec_of ex0
    have ex2 : (X == 2 * wd) = false := eqf (by omega)
    have dx2 := dec_of ex2
    have ey0 : (Y == 0) = false := eqf (by omega)
    have dy0 := dec_of ey0
    have ey2 : (Y == 2 * ht) = true := eqt (by omega)
    have dy2 := dec_of ey2
    clear h1 h2 h3 h4
    obtain ⟨s1, s2, s3, s4⟩ := hsz.out
    obtain ⟨wka_x1, wkb_x1, wkc_x1, wkd_x1⟩ := ((Bx.new_ w (w.heap.size) 112 #[.int .i64 x, .int .i64 y, .int .i64 dx, .int .i64 dy] (by simp)).alloc (.cells #[.int .i64 0, .int .i64 0, .int .i64 0, .int .i64 0] 112)).four
    go_enter Try.func170, Try.ntmps170
    go_wp2_with fail
    refine ((HX.out _)).mono ?_
    rintro e w1 ⟨rfl, hb1⟩
    have wk_1 := ((Bx.new_ w (w.heap.size) 112 #[.int .i64 x, .int .i64 y, .int .i64 dx, .int .i64 dy] (by simp)).alloc (.cells #[.int .i64 0, .int .i64 0, .int .i64 0, .int .i64 0] 112)).below hb1
    obtain ⟨wka_1, wkb_1, wkc_1, wkd_1⟩ := (wk_1).four
    have r_1 := (Bx.new_ (w.alloc (.cells #[.int .i64 x, .int .i64 y, .int .i64 dx, .int .i64 dy] 112)) (w.heap.size + 1) 112 #[.int .i64 0, .int .i64 0, .int .i64 0, .int .i64 0] (by simp)).below hb1
    obtain ⟨ra_1, rb_1, rc_1, rd_1⟩ := (r_1).four
    have rf0_1 := (r_1).frozen 0
    have rf1_1 := (r_1).frozen 1
    have rf2_1 := (r_1).frozen 2
    have rf3_1 := (r_1).frozen 3
    have z_1 : ((w.alloc (.cells #[.int .i64 x, .int .i64 y, .int .i64 dx, .int .i64 dy] 112)).alloc (.cells #[.int .i64 0, .int .i64 0, .int .i64 0, .int .i64 0] 112)).heap.size ≤ w1.heap.size := hb1.size
    simp only [World.size_alloc] at z_1
    have B_1 := (((Below.refl w.heap.size w).alloc (by first | omega | (simp; omega) | simp) (.cells #[.int .i64 x, .int .i64 y, .int .i64 dx, .int .i64 dy] 112)).alloc (by first | omega | (simp; omega) | simp) (.cells #[.int .i64 0, .int .i64 0, .int .i64 0, .int .i64 0] 112)).trans (hb1.mono (by first | omega | (simp; omega) | simp))
    obtain ⟨wka_b, wkb_b, wkc_b, wkd_b⟩ := ((wk_1).alloc (.cells #[.int .i64 X, .int .i64 Y] 110)).four
    obtain ⟨pa_b, pb_b⟩ := (Bx.new_ w1 (w1.heap.size) 110 #[.int .i64 X, .int .i64 Y] (by simp)).two
    obtain ⟨pa_x3, pb_x3⟩ := ((Bx.new_ w1 (w1.heap.size) 110 #[.int .i64 X, .int .i64 Y] (by simp)).alloc (.cells #[.int .i64 X, .int .i64 Y, .int .i64 dx, .int .i64 dy] 112)).two
    obtain ⟨oa_x3, ob_x3, oc_x3, od_x3⟩ := (Bx.new_ (w1.alloc (.cells #[.int .i64 X, .int .i64 Y] 110)) (w1.heap.size + 1) 112 #[.int .i64 X, .int .i64 Y, .int .i64 dx, .int .i64 dy] (by simp)).four
    have of0_x3 := (Bx.new_ (w1.alloc (.cells #[.int .i64 X, .int .i64 Y] 110)) (w1.heap.size + 1) 112 #[.int .i64 X, .int .i64 Y, .int .i64 dx, .int .i64 dy] (by simp)).frozen 0
    have of1_x3 := (Bx.new_ (w1.alloc (.cells #[.int .i64 X, .int .i64 Y] 110)) (w1.heap.size + 1) 112 #[.int .i64 X, .int .i64 Y, .int .i64 dx, .int .i64 dy] (by simp)).frozen 1
    have of2_x3 := (Bx.new_ (w1.alloc (.cells #[.int .i64 X, .int .i64 Y] 110)) (w1.heap.size + 1) 112 #[.int .i64 X, .int .i64 Y, .int .i64 dx, .int .i64 dy] (by simp)).frozen 2
    have of3_x3 := (Bx.new_ (w1.alloc (.cells #[.int .i64 X, .int .i64 Y] 110)) (w1.heap.size + 1) 112 #[.int .i64 X, .int .i64 Y, .int .i64 dx, .int .i64 dy] (by simp)).frozen 3
    obtain ⟨wka_x3, wkb_x3, wkc_x3, wkd_x3⟩ := (((wk_1).alloc (.cells #[.int .i64 X, .int .i64 Y] 110)).alloc (.cells #[.int .i64 X, .int .i64 Y, .int .i64 dx, .int .i64 dy] 112)).four
    have c0_1 := (hp.below (((B_1).alloc (by first | omega | (simp; omega) | simp) (.cells #[.int .i64 X, .int .i64 Y] 110)).alloc (by first | omega | (simp; omega) | simp) (.cells #[.int .i64 X, .int .i64 Y, .int .i64 dx, .int .i64 dy] 112))).c0
    have c1_1 := (hp.below (((B_1).alloc (by first | omega | (simp; omega) | simp) (.cells #[.int .i64 X, .int .i64 Y] 110)).alloc (by first | omega | (simp; omega) | simp) (.cells #[.int .i64 X, .int .i64 Y, .int .i64 dx, .int .i64 dy] 112))).c1
    go_wp2_with fail
    go_quiet (fail)
    rename Nat => n1
    obtain ⟨pa_x4, pb_x4⟩ := (((Bx.new_ w1 (w1.heap.size) 110 #[.int .i64 X, .int .i64 Y] (by simp)).alloc (.cells #[.int .i64 X, .int .i64 Y, .int .i64 dx, .int .i64 dy] 112)).drewN n1).two
    obtain ⟨oa_x4, ob_x4, oc_x4, od_x4⟩ := ((Bx.new_ (w1.alloc (.cells #[.int .i64 X, .int .i64 Y] 110)) (w1.heap.size + 1) 112 #[.int .i64 X, .int .i64 Y, .int .i64 dx, .int .i64 dy] (by simp)).drewN n1).four
    have of0_x4 := ((Bx.new_ (w1.alloc (.cells #[.int .i64 X, .int .i64 Y] 110)) (w1.heap.size + 1) 112 #[.int .i64 X, .int .i64 Y, .int .i64 dx, .int .i64 dy] (by simp)).drewN n1).frozen 0
    have of1_x4 := ((Bx.new_ (w1.alloc (.cells #[.int .i64 X, .int .i64 Y] 110)) (w1.heap.size + 1) 112 #[.int .i64 X, .int .i64 Y, .int .i64 dx, .int .i64 dy] (by simp)).drewN n1).frozen 1
    have of2_x4 := ((Bx.new_ (w1.alloc (.cells #[.int .i64 X, .int .i64 Y] 110)) (w1.heap.size + 1) 112 #[.int .i64 X, .int .i64 Y, .int .i64 dx, .int .i64 dy] (by simp)).drewN n1).frozen 2
    have of3_x4 := ((Bx.new_ (w1.alloc (.cells #[.int .i64 X, .int .i64 Y] 110)) (w1.heap.size + 1) 112 #[.int .i64 X, .int .i64 Y, .int .i64 dx, .int .i64 dy] (by simp)).drewN n1).frozen 3
    have c0_2 := (hp.below (below_drewN' (((B_1).alloc (by first | omega | (simp; omega) | simp) (.cells #[.int .i64 X, .int .i64 Y] 110)).alloc (by first | omega | (simp; omega) | simp) (.cells #[.int .i64 X, .int .i64 Y, .int .i64 dx, .int .i64 dy] 112)) n1)).c0
    have c1_2 := (hp.below (below_drewN' (((B_1).alloc (by first | omega | (simp; omega) | simp) (.cells #[.int .i64 X, .int .i64 Y] 110)).alloc (by first | omega | (simp; omega) | simp) (.cells #[.int .i64 X, .int .i64 Y, .int .i64 dx, .int .i64 dy] 112)) n1)).c1
    go_wp2_with fail
    go_quiet (fail)
    rename Nat => n2
    obtain ⟨pa_x4, pb_x4⟩ := ((((Bx.new_ w1 (w1.heap.size) 110 #[.int .i64 X, .int .i64 Y] (by simp)).alloc (.cells #[.int .i64 X, .int .i64 Y, .int .i64 dx, .int .i64 dy] 112)).drewN (n1 + n2)).far (p := ⟨(w1.heap.size + 1), 3, none⟩) (by first | omega | (simp; omega) | simp) (.int .i64 (-dy))).two
    obtain ⟨oa_x4, ob_x4, oc_x4, od_x4⟩ := (((Bx.new_ (w1.alloc (.cells #[.int .i64 X, .int .i64 Y] 110)) (w1.heap.size + 1) 112 #[.int .i64 X, .int .i64 Y, .int .i64 dx, .int .i64 dy] (by simp)).drewN (n1 + n2)).set_ 3 (.int .i64 (-dy))).four
    have of0_x4 := (((Bx.new_ (w1.alloc (.cells #[.int .i64 X, .int .i64 Y] 110)) (w1.heap.size + 1) 112 #[.int .i64 X, .int .i64 Y, .int .i64 dx, .int .i64 dy] (by simp)).drewN (n1 + n2)).set_ 3 (.int .i64 (-dy))).frozen 0
    have of1_x4 := (((Bx.new_ (w1.alloc (.cells #[.int .i64 X, .int .i64 Y] 110)) (w1.heap.size + 1) 112 #[.int .i64 X, .int .i64 Y, .int .i64 dx, .int .i64 dy] (by simp)).drewN (n1 + n2)).set_ 3 (.int .i64 (-dy))).frozen 1
    have of2_x4 := (((Bx.new_ (w1.alloc (.cells #[.int .i64 X, .int .i64 Y] 110)) (w1.heap.size + 1) 112 #[.int .i64 X, .int .i64 Y, .int .i64 dx, .int .i64 dy] (by simp)).drewN (n1 + n2)).set_ 3 (.int .i64 (-dy))).frozen 2
    have of3_x4 := (((Bx.new_ (w1.alloc (.cells #[.int .i64 X, .int .i64 Y] 110)) (w1.heap.size + 1) 112 #[.int .i64 X, .int .i64 Y, .int .i64 dx, .int .i64 dy] (by simp)).drewN (n1 + n2)).set_ 3 (.int .i64 (-dy))).frozen 3
    go_wp2_with fail
    refine ((l02Edge_any b0 wd ht X Y A c xs _ (hp.below ((below_drewN' (((B_1).alloc (by first | omega | (simp; omega) | simp) (.cells #[.int .i64 X, .int .i64 Y] 110)).alloc (by first | omega | (simp; omega) | simp) (.cells #[.int .i64 X, .int .i64 Y, .int .i64 dx, .int .i64 dy] 112)) (n1 + n2)).setCell (p := ⟨(w1.heap.size + 1), 3, none⟩) (by first | omega | (simp; omega) | simp) (.int .i64 (-dy)))) hsz.out)).mono ?_
    rintro e w3 ⟨rfl, hb3⟩
    have wk_3 := (((((wk_1).alloc (.cells #[.int .i64 X, .int .i64 Y] 110)).alloc (.cells #[.int .i64 X, .int .i64 Y, .int .i64 dx, .int .i64 dy] 112)).drewN (n1 + n2)).far (p := ⟨(w1.heap.size + 1), 3, none⟩) (by first | omega | (simp; omega) | simp) (.int .i64 (-dy))).below hb3
    obtain ⟨wka_3, wkb_3, wkc_3, wkd_3⟩ := (wk_3).four
    have r_3 := (((((r_1).alloc (.cells #[.int .i64 X, .int .i64 Y] 110)).alloc (.cells #[.int .i64 X, .int .i64 Y, .int .i64 dx, .int .i64 dy] 112)).drewN (n1 + n2)).far (p := ⟨(w1.heap.size + 1), 3, none⟩) (by first | omega | (simp; omega) | simp) (.int .i64 (-dy))).below hb3
    obtain ⟨ra_3, rb_3, rc_3, rd_3⟩ := (r_3).four
    have rf0_3 := (r_3).frozen 0
    have rf1_3 := (r_3).frozen 1
    have rf2_3 := (r_3).frozen 2
    have rf3_3 := (r_3).frozen 3
    have p_3 := ((((Bx.new_ w1 (w1.heap.size) 110 #[.int .i64 X, .int .i64 Y] (by simp)).alloc (.cells #[.int .i64 X, .int .i64 Y, .int .i64 dx, .int .i64 dy] 112)).drewN (n1 + n2)).far (p := ⟨(w1.heap.size + 1), 3, none⟩) (by first | omega | (simp; omega) | simp) (.int .i64 (-dy))).below hb3
    obtain ⟨pa_3, pb_3⟩ := (p_3).two
    have o_3 := (((Bx.new_ (w1.alloc (.cells #[.int .i64 X, .int .i64 Y] 110)) (w1.heap.size + 1) 112 #[.int .i64 X, .int .i64 Y, .int .i64 dx, .int .i64 dy] (by simp)).drewN (n1 + n2)).set_ 3 (.int .i64 (-dy))).below hb3
    obtain ⟨oa_3, ob_3, oc_3, od_3⟩ := (o_3).four
    have of0_3 := (o_3).frozen 0
    have of1_3 := (o_3).frozen 1
    have of2_3 := (o_3).frozen 2
    have of3_3 := (o_3).frozen 3
    have z_3 : ((((w1.alloc (.cells #[.int .i64 X, .int .i64 Y] 110)).alloc (.cells #[.int .i64 X, .int .i64 Y, .int .i64 dx, .int .i64 dy] 112)).drewN (n1 + n2)).setCell ⟨(w1.heap.size + 1), 3, none⟩ (.int .i64 (-dy))).heap.size ≤ w3.heap.size := hb3.size
    simp only [World.size_alloc, size_drewN, World.size_setCell] at z_3
    have B_3 := ((below_drewN' (((B_1).alloc (by first | omega | (simp; omega) | simp) (.cells #[.int .i64 X, .int .i64 Y] 110)).alloc (by first | omega | (simp; omega) | simp) (.cells #[.int .i64 X, .int .i64 Y, .int .i64 dx, .int .i64 dy] 112)) (n1 + n2)).setCell (p := ⟨(w1.heap.size + 1), 3, none⟩) (by first | omega | (simp; omega) | simp) (.int .i64 (-dy))).trans (hb3.mono (by first | omega | (simp; omega) | simp))
    rw [hE.out]
    obtain ⟨ra_c, rb_c, rc_c, rd_c⟩ := (r_3).four
    have rf0_c := (r_3).frozen 0
    have rf1_c := (r_3).frozen 1
    have rf2_c := (r_3).frozen 2
    have rf3_c := (r_3).frozen 3
    obtain ⟨oa_c, ob_c, oc_c, od_c⟩ := (o_3).four
    have of0_c := (o_3).frozen 0
    have of1_c := (o_3).frozen 1
    have of2_c := (o_3).frozen 2
    have of3_c := (o_3).frozen 3
    obtain ⟨pa_c, pb_c⟩ := (p_3).two
    go_wp2_with fail
    obtain ⟨ra_z, rb_z, rc_z, rd_z⟩ := (((((r_3).set_ 0 (.int .i64 (X))).set_ 1 (.int .i64 (Y))).set_ 2 (.int .i64 (dx))).set_ 3 (.int .i64 (-dy))).four
    have rf0_z := (((((r_3).set_ 0 (.int .i64 (X))).set_ 1 (.int .i64 (Y))).set_ 2 (.int .i64 (dx))).set_ 3 (.int .i64 (-dy))).frozen 0
    have rf1_z := (((((r_3).set_ 0 (.int .i64 (X))).set_ 1 (.int .i64 (Y))).set_ 2 (.int .i64 (dx))).set_ 3 (.int .i64 (-dy))).frozen 1
    have rf2_z := (((((r_3).set_ 0 (.int .i64 (X))).set_ 1 (.int .i64 (Y))).set_ 2 (.int .i64 (dx))).set_ 3 (.int .i64 (-dy))).frozen 2
    have rf3_z := (((((r_3).set_ 0 (.int .i64 (X))).set_ 1 (.int .i64 (Y))).set_ 2 (.int .i64 (dx))).set_ 3 (.int .i64 (-dy))).frozen 3
    refine bodyPost_ret (v := .agg #[.int .i64 X, .int .i64 Y, .int .i64 (dx), .int .i64 (-dy)]) (by simp [results, Try.results170, go_sem, ra_z, rb_z, rc_z, rd_z]) rfl ?_
    exact ⟨rfl, (((((B_3).setCell (p := ⟨(w.heap.size + 1), 0, none⟩) (by first | omega | (simp; omega) | simp) (.int .i64 (X))).setCell (p := ⟨(w.heap.size + 1), 1, none⟩) (by first | omega | (simp; omega) | simp) (.int .i64 (Y))).setCell (p := ⟨(w.heap.size + 1), 2, none⟩) (by first | omega | (simp; omega) | simp) (.int .i64 (dx))).setCell (p := ⟨(w.heap.size + 1), 3, none⟩) (by first | omega | (simp; omega) | simp) (.int .i64 (-dy)))⟩
  · intro h1 h2 h3 h4 he hk
    have hkE := hide (inner_at (xs := xs) hsz.out hON.out)
    have hE := hide (edge_false he)
    obtain ⟨⟨x1, x2⟩, ⟨y1, y2⟩, k, kd, hnum, hkl, hkx, hkk⟩ := hkE.out he hl
    rw [hkk] at hk
    have HNUM := hide hnum
    clear hnum hkk
    clear hkE he ha
    obtain ⟨x, y, dx, dy⟩ := a
    simp only [Wk.nx, Wk.ny] at *
    generalize hX : x + dx = X at *
    generalize hY : y + dy = Y at *
    have HXY := hide (And.intro hX hY)
    clear hX hY
    have ex0 : (X == 0) = false := eqf (by omega)
    have dx0 := dec_of ex0
    have ex2 : (X == 2 * wd) = false := eqf (by omega)
    have dx2 := dec_of ex2
    have ey0 : (Y == 0) = false := eqf (by omega)
    have dy0 := dec_of ey0
    have ey2 : (Y == 2 * ht) = false := eqf (by omega)
    have dy2 := dec_of ey2
    have ek1 : (kd == 1) = true := eqt (by omega)
    have dk1 := dec_of ek1
    have ek2 : (kd == 2) = false := eqf (by omega)
    have dk2 := dec_of ek2
    clear h1 h2 h3 h4 hk
    obtain ⟨s1, s2, s3, s4⟩ := hsz.out
    obtain ⟨wka_x1, wkb_x1, wkc_x1, wkd_x1⟩ := ((Bx.new_ w (w.heap.size) 112 #[.int .i64 x, .int .i64 y, .int .i64 dx, .int .i64 dy] (by simp)).alloc (.cells #[.int .i64 0, .int .i64 0, .int .i64 0, .int .i64 0] 112)).four
    go_enter Try.func170, Try.ntmps170
    go_wp2_with fail
    refine ((HX.out _)).mono ?_
    rintro e w1 ⟨rfl, hb1⟩
    have wk_1 := ((Bx.new_ w (w.heap.size) 112 #[.int .i64 x, .int .i64 y, .int .i64 dx, .int .i64 dy] (by simp)).alloc (.cells #[.int .i64 0, .int .i64 0, .int .i64 0, .int .i64 0] 112)).below hb1
    obtain ⟨wka_1, wkb_1, wkc_1, wkd_1⟩ := (wk_1).four
    have r_1 := (Bx.new_ (w.alloc (.cells #[.int .i64 x, .int .i64 y, .int .i64 dx, .int .i64 dy] 112)) (w.heap.size + 1) 112 #[.int .i64 0, .int .i64 0, .int .i64 0, .int .i64 0] (by simp)).below hb1
    obtain ⟨ra_1, rb_1, rc_1, rd_1⟩ := (r_1).four
    have rf0_1 := (r_1).frozen 0
    have rf1_1 := (r_1).frozen 1
    have rf2_1 := (r_1).frozen 2
    have rf3_1 := (r_1).frozen 3
    have z_1 : ((w.alloc (.cells #[.int .i64 x, .int .i64 y, .int .i64 dx, .int .i64 dy] 112)).alloc (.cells #[.int .i64 0, .int .i64 0, .int .i64 0, .int .i64 0] 112)).heap.size ≤ w1.heap.size := hb1.size
    simp only [World.size_alloc] at z_1
    have B_1 := (((Below.refl w.heap.size w).alloc (by first | omega | (simp; omega) | simp) (.cells #[.int .i64 x, .int .i64 y, .int .i64 dx, .int .i64 dy] 112)).alloc (by first | omega | (simp; omega) | simp) (.cells #[.int .i64 0, .int .i64 0, .int .i64 0, .int .i64 0] 112)).trans (hb1.mono (by first | omega | (simp; omega) | simp))
    obtain ⟨wka_b, wkb_b, wkc_b, wkd_b⟩ := ((wk_1).alloc (.cells #[.int .i64 X, .int .i64 Y] 110)).four
    obtain ⟨pa_b, pb_b⟩ := (Bx.new_ w1 (w1.heap.size) 110 #[.int .i64 X, .int .i64 Y] (by simp)).two
    obtain ⟨pa_x3, pb_x3⟩ := ((Bx.new_ w1 (w1.heap.size) 110 #[.int .i64 X, .int .i64 Y] (by simp)).alloc (.cells #[.int .i64 X, .int .i64 Y, .int .i64 dx, .int .i64 dy] 112)).two
    obtain ⟨oa_x3, ob_x3, oc_x3, od_x3⟩ := (Bx.new_ (w1.alloc (.cells #[.int .i64 X, .int .i64 Y] 110)) (w1.heap.size + 1) 112 #[.int .i64 X, .int .i64 Y, .int .i64 dx, .int .i64 dy] (by simp)).four
    have of0_x3 := (Bx.new_ (w1.alloc (.cells #[.int .i64 X, .int .i64 Y] 110)) (w1.heap.size + 1) 112 #[.int .i64 X, .int .i64 Y, .int .i64 dx, .int .i64 dy] (by simp)).frozen 0
    have of1_x3 := (Bx.new_ (w1.alloc (.cells #[.int .i64 X, .int .i64 Y] 110)) (w1.heap.size + 1) 112 #[.int .i64 X, .int .i64 Y, .int .i64 dx, .int .i64 dy] (by simp)).frozen 1
    have of2_x3 := (Bx.new_ (w1.alloc (.cells #[.int .i64 X, .int .i64 Y] 110)) (w1.heap.size + 1) 112 #[.int .i64 X, .int .i64 Y, .int .i64 dx, .int .i64 dy] (by simp)).frozen 2
    have of3_x3 := (Bx.new_ (w1.alloc (.cells #[.int .i64 X, .int .i64 Y] 110)) (w1.heap.size + 1) 112 #[.int .i64 X, .int .i64 Y, .int .i64 dx, .int .i64 dy] (by simp)).frozen 3
    obtain ⟨wka_x3, wkb_x3, wkc_x3, wkd_x3⟩ := (((wk_1).alloc (.cells #[.int .i64 X, .int .i64 Y] 110)).alloc (.cells #[.int .i64 X, .int .i64 Y, .int .i64 dx, .int .i64 dy] 112)).four
    have c0_1 := (hp.below (((B_1).alloc (by first | omega | (simp; omega) | simp) (.cells #[.int .i64 X, .int .i64 Y] 110)).alloc (by first | omega | (simp; omega) | simp) (.cells #[.int .i64 X, .int .i64 Y, .int .i64 dx, .int .i64 dy] 112))).c0
    have c1_1 := (hp.below (((B_1).alloc (by first | omega | (simp; omega) | simp) (.cells #[.int .i64 X, .int .i64 Y] 110)).alloc (by first | omega | (simp; omega) | simp) (.cells #[.int .i64 X, .int .i64 Y, .int .i64 dx, .int .i64 dy] 112))).c1
    go_wp2_with fail
    go_quiet (fail)
    rename Nat => n1
    obtain ⟨pa_x4, pb_x4⟩ := (((Bx.new_ w1 (w1.heap.size) 110 #[.int .i64 X, .int .i64 Y] (by simp)).alloc (.cells #[.int .i64 X, .int .i64 Y, .int .i64 dx, .int .i64 dy] 112)).drewN n1).two
    obtain ⟨oa_x4, ob_x4, oc_x4, od_x4⟩ := ((Bx.new_ (w1.alloc (.cells #[.int .i64 X, .int .i64 Y] 110)) (w1.heap.size + 1) 112 #[.int .i64 X, .int .i64 Y, .int .i64 dx, .int .i64 dy] (by simp)).drewN n1).four
    have of0_x4 := ((Bx.new_ (w1.alloc (.cells #[.int .i64 X, .int .i64 Y] 110)) (w1.heap.size + 1) 112 #[.int .i64 X, .int .i64 Y, .int .i64 dx, .int .i64 dy] (by simp)).drewN n1).frozen 0
    have of1_x4 := ((Bx.new_ (w1.alloc (.cells #[.int .i64 X, .int .i64 Y] 110)) (w1.heap.size + 1) 112 #[.int .i64 X, .int .i64 Y, .int .i64 dx, .int .i64 dy] (by simp)).drewN n1).frozen 1
    have of2_x4 := ((Bx.new_ (w1.alloc (.cells #[.int .i64 X, .int .i64 Y] 110)) (w1.heap.size + 1) 112 #[.int .i64 X, .int .i64 Y, .int .i64 dx, .int .i64 dy] (by simp)).drewN n1).frozen 2
    have of3_x4 := ((Bx.new_ (w1.alloc (.cells #[.int .i64 X, .int .i64 Y] 110)) (w1.heap.size + 1) 112 #[.int .i64 X, .int .i64 Y, .int .i64 dx, .int .i64 dy] (by simp)).drewN n1).frozen 3
    have c0_2 := (hp.below (below_drewN' (((B_1).alloc (by first | omega | (simp; omega) | simp) (.cells #[.int .i64 X, .int .i64 Y] 110)).alloc (by first | omega | (simp; omega) | simp) (.cells #[.int .i64 X, .int .i64 Y, .int .i64 dx, .int .i64 dy] 112)) n1)).c0
    have c1_2 := (hp.below (below_drewN' (((B_1).alloc (by first | omega | (simp; omega) | simp) (.cells #[.int .i64 X, .int .i64 Y] 110)).alloc (by first | omega | (simp; omega) | simp) (.cells #[.int .i64 X, .int .i64 Y, .int .i64 dx, .int .i64 dy] 112)) n1)).c1
    go_wp2_with fail
    go_quiet (fail)
    rename Nat => n2
    obtain ⟨pa_x4, pb_x4⟩ := (((Bx.new_ w1 (w1.heap.size) 110 #[.int .i64 X, .int .i64 Y] (by simp)).alloc (.cells #[.int .i64 X, .int .i64 Y, .int .i64 dx, .int .i64 dy] 112)).drewN (n1 + n2)).two
    obtain ⟨oa_x4, ob_x4, oc_x4, od_x4⟩ := ((Bx.new_ (w1.alloc (.cells #[.int .i64 X, .int .i64 Y] 110)) (w1.heap.size + 1) 112 #[.int .i64 X, .int .i64 Y, .int .i64 dx, .int .i64 dy] (by simp)).drewN (n1 + n2)).four
    have of0_x4 := ((Bx.new_ (w1.alloc (.cells #[.int .i64 X, .int .i64 Y] 110)) (w1.heap.size + 1) 112 #[.int .i64 X, .int .i64 Y, .int .i64 dx, .int .i64 dy] (by simp)).drewN (n1 + n2)).frozen 0
    have of1_x4 := ((Bx.new_ (w1.alloc (.cells #[.int .i64 X, .int .i64 Y] 110)) (w1.heap.size + 1) 112 #[.int .i64 X, .int .i64 Y, .int .i64 dx, .int .i64 dy] (by simp)).drewN (n1 + n2)).frozen 1
    have of2_x4 := ((Bx.new_ (w1.alloc (.cells #[.int .i64 X, .int .i64 Y] 110)) (w1.heap.size + 1) 112 #[.int .i64 X, .int .i64 Y, .int .i64 dx, .int .i64 dy] (by simp)).drewN (n1 + n2)).frozen 2
    have of3_x4 := ((Bx.new_ (w1.alloc (.cells #[.int .i64 X, .int .i64 Y] 110)) (w1.heap.size + 1) 112 #[.int .i64 X, .int .i64 Y, .int .i64 dx, .int .i64 dy] (by simp)).drewN (n1 + n2)).frozen 3
    go_wp2_with fail
    refine ((l02Edge_any b0 wd ht X Y A c xs _ (hp.below (below_drewN' (((B_1).alloc (by first | omega | (simp; omega) | simp) (.cells #[.int .i64 X, .int .i64 Y] 110)).alloc (by first | omega | (simp; omega) | simp) (.cells #[.int .i64 X, .int .i64 Y, .int .i64 dx, .int .i64 dy] 112)) (n1 + n2))) hsz.out)).mono ?_
    rintro e w3 ⟨rfl, hb3⟩
    have wk_3 := ((((wk_1).alloc (.cells #[.int .i64 X, .int .i64 Y] 110)).alloc (.cells #[.int .i64 X, .int .i64 Y, .int .i64 dx, .int .i64 dy] 112)).drewN (n1 + n2)).below hb3
    obtain ⟨wka_3, wkb_3, wkc_3, wkd_3⟩ := (wk_3).four
    have r_3 := ((((r_1).alloc (.cells #[.int .i64 X, .int .i64 Y] 110)).alloc (.cells #[.int .i64 X, .int .i64 Y, .int .i64 dx, .int .i64 dy] 112)).drewN (n1 + n2)).below hb3
    obtain ⟨ra_3, rb_3, rc_3, rd_3⟩ := (r_3).four
    have rf0_3 := (r_3).frozen 0
    have rf1_3 := (r_3).frozen 1
    have rf2_3 := (r_3).frozen 2
    have rf3_3 := (r_3).frozen 3
    have p_3 := (((Bx.new_ w1 (w1.heap.size) 110 #[.int .i64 X, .int .i64 Y] (by simp)).alloc (.cells #[.int .i64 X, .int .i64 Y, .int .i64 dx, .int .i64 dy] 112)).drewN (n1 + n2)).below hb3
    obtain ⟨pa_3, pb_3⟩ := (p_3).two
    have o_3 := ((Bx.new_ (w1.alloc (.cells #[.int .i64 X, .int .i64 Y] 110)) (w1.heap.size + 1) 112 #[.int .i64 X, .int .i64 Y, .int .i64 dx, .int .i64 dy] (by simp)).drewN (n1 + n2)).below hb3
    obtain ⟨oa_3, ob_3, oc_3, od_3⟩ := (o_3).four
    have of0_3 := (o_3).frozen 0
    have of1_3 := (o_3).frozen 1
    have of2_3 := (o_3).frozen 2
    have of3_3 := (o_3).frozen 3
    have z_3 : (((w1.alloc (.cells #[.int .i64 X, .int .i64 Y] 110)).alloc (.cells #[.int .i64 X, .int .i64 Y, .int .i64 dx, .int .i64 dy] 112)).drewN (n1 + n2)).heap.size ≤ w3.heap.size := hb3.size
    simp only [World.size_alloc, size_drewN] at z_3
    have B_3 := (below_drewN' (((B_1).alloc (by first | omega | (simp; omega) | simp) (.cells #[.int .i64 X, .int .i64 Y] 110)).alloc (by first | omega | (simp; omega) | simp) (.cells #[.int .i64 X, .int .i64 Y, .int .i64 dx, .int .i64 dy] 112)) (n1 + n2)).trans (hb3.mono (by first | omega | (simp; omega) | simp))
    rw [hE.out]
    obtain ⟨ra_c, rb_c, rc_c, rd_c⟩ := (r_3).four
    have rf0_c := (r_3).frozen 0
    have rf1_c := (r_3).frozen 1
    have rf2_c := (r_3).frozen 2
    have rf3_c := (r_3).frozen 3
    obtain ⟨oa_c, ob_c, oc_c, od_c⟩ := (o_3).four
    have of0_c := (o_3).frozen 0
    have of1_c := (o_3).frozen 1
    have of2_c := (o_3).frozen 2
    have of3_c := (o_3).frozen 3
    obtain ⟨pa_c, pb_c⟩ := (p_3).two
    have hC0 : Below w3.heap.size w3 w3.drew := (Below.refl _ _).drew
    have f0 : ∀ p : BelowOf w3, p.w.cell? ⟨b0, 2, none⟩ = some (.slice A xs.length c) := fun p => ((hp.below (B_3)).below p.h).c2
    have hpl := (p_3)
    have f1 : ∀ p : BelowOf w3, p.w.cell? ⟨w1.heap.size, 0, none⟩ = some (.int .i64 X) := fun p => (hpl.below p.h).two.1
    have f2 : ∀ p : BelowOf w3, p.w.cell? ⟨w1.heap.size, 1, none⟩ = some (.int .i64 Y) := fun p => (hpl.below p.h).two.2
    obtain ⟨b, off, kd', rfl, hb, hkx', hc⟩ := (hp.below (B_3)).rd.at_ (k := k) hkl
    obtain rfl : kd' = kd := by rw [hkx] at hkx'; injection hkx' with h; exact h.symm
    have hcp : ∀ p : BelowOf w3, p.w.cell? ⟨b, off + k, none⟩ = some (.int .i64 kd') := fun p => by
      obtain ⟨b', off', kd2, e1, _, e2, e3⟩ := ((hp.below (B_3)).below p.h).rd.at_ (k := k) hkl
      injection e1 with e1
      injection e1 with e4 e5
      subst e4 e5
      rw [hkx'] at e2
      injection e2 with e2
      subst e2
      exact e3
    have HCN : ∀ p : BelowOf w3, Calls Try.prog 174 #[.pointer (some ⟨b0, 0, none⟩), .agg #[.int .i64 X, .int .i64 Y]] p.w (RetV p.w (.int .i64 (k : Int))) := fun p => by
      rw [← HNUM.out]
      exact l02Number_any b0 wd ht X Y _ c xs p.w ((hp.below (B_3)).below p.h) hsz.out.1 hsz.out.2.1 y1 y2 x1 x2
    go_wp2_with fail
    refine region_below (by kernel_rfl) (by kernel_rfl) hC0 ?_
    repeat (go_big_quiet_step (first | exact BelowOf.ret (HCN _)))
    refine wpQuiet_nil ?_
    rintro w4 ⟨⟨w4, hb4⟩, rfl⟩
    have wk_4 := (wk_3).below hb4
    obtain ⟨wka_4, wkb_4, wkc_4, wkd_4⟩ := (wk_4).four
    have r_4 := (r_3).below hb4
    obtain ⟨ra_4, rb_4, rc_4, rd_4⟩ := (r_4).four
    have rf0_4 := (r_4).frozen 0
    have rf1_4 := (r_4).frozen 1
    have rf2_4 := (r_4).frozen 2
    have rf3_4 := (r_4).frozen 3
    have p_4 := (p_3).below hb4
    obtain ⟨pa_4, pb_4⟩ := (p_4).two
    have o_4 := (o_3).below hb4
    obtain ⟨oa_4, ob_4, oc_4, od_4⟩ := (o_4).four
    have of0_4 := (o_4).frozen 0
    have of1_4 := (o_4).frozen 1
    have of2_4 := (o_4).frozen 2
    have of3_4 := (o_4).frozen 3
    have z_4 : w3.heap.size ≤ w4.heap.size := hb4.size
    have B_4 := (B_3).trans (hb4.mono (by first | omega | (simp; omega) | simp))
    clear f0 f1 f2 hcp HCN
    obtain ⟨oa_d, ob_d, oc_d, od_d⟩ := ((o_4).set_ 2 (.int .i64 (-dx))).four
    have of0_d := ((o_4).set_ 2 (.int .i64 (-dx))).frozen 0
    have of1_d := ((o_4).set_ 2 (.int .i64 (-dx))).frozen 1
    have of2_d := ((o_4).set_ 2 (.int .i64 (-dx))).frozen 2
    have of3_d := ((o_4).set_ 2 (.int .i64 (-dx))).frozen 3
    go_wp2_with fail
    obtain ⟨ra_z, rb_z, rc_z, rd_z⟩ := ((((((r_4).far (p := ⟨(w1.heap.size + 1), 2, none⟩) (by first | omega | (simp; omega) | simp) (.int .i64 (-dx))).set_ 0 (.int .i64 (X))).set_ 1 (.int .i64 (Y))).set_ 2 (.int .i64 (-dx))).set_ 3 (.int .i64 (dy))).four
    have rf0_z := ((((((r_4).far (p := ⟨(w1.heap.size + 1), 2, none⟩) (by first | omega | (simp; omega) | simp) (.int .i64 (-dx))).set_ 0 (.int .i64 (X))).set_ 1 (.int .i64 (Y))).set_ 2 (.int .i64 (-dx))).set_ 3 (.int .i64 (dy))).frozen 0
    have rf1_z := ((((((r_4).far (p := ⟨(w1.heap.size + 1), 2, none⟩) (by first | omega | (simp; omega) | simp) (.int .i64 (-dx))).set_ 0 (.int .i64 (X))).set_ 1 (.int .i64 (Y))).set_ 2 (.int .i64 (-dx))).set_ 3 (.int .i64 (dy))).frozen 1
    have rf2_z := ((((((r_4).far (p := ⟨(w1.heap.size + 1), 2, none⟩) (by first | omega | (simp; omega) | simp) (.int .i64 (-dx))).set_ 0 (.int .i64 (X))).set_ 1 (.int .i64 (Y))).set_ 2 (.int .i64 (-dx))).set_ 3 (.int .i64 (dy))).frozen 2
    have rf3_z := ((((((r_4).far (p := ⟨(w1.heap.size + 1), 2, none⟩) (by first | omega | (simp; omega) | simp) (.int .i64 (-dx))).set_ 0 (.int .i64 (X))).set_ 1 (.int .i64 (Y))).set_ 2 (.int .i64 (-dx))).set_ 3 (.int .i64 (dy))).frozen 3
    refine bodyPost_ret (v := .agg #[.int .i64 X, .int .i64 Y, .int .i64 (-dx), .int .i64 (dy)]) (by simp [results, Try.results170, go_sem, ra_z, rb_z, rc_z, rd_z]) rfl ?_
    exact ⟨rfl, ((((((B_4).setCell (p := ⟨(w1.heap.size + 1), 2, none⟩) (by first | omega | (simp; omega) | simp) (.int .i64 (-dx))).setCell (p := ⟨(w.heap.size + 1), 0, none⟩) (by first | omega | (simp; omega) | simp) (.int .i64 (X))).setCell (p := ⟨(w.heap.size + 1), 1, none⟩) (by first | omega | (simp; omega) | simp) (.int .i64 (Y))).setCell (p := ⟨(w.heap.size + 1), 2, none⟩) (by first | omega | (simp; omega) | simp) (.int .i64 (-dx))).setCell (p := ⟨(w.heap.size + 1), 3, none⟩) (by first | omega | (simp; omega) | simp) (.int .i64 (dy)))⟩
  · intro h1 h2 h3 h4 he hk
    have hkE := hide (inner_at (xs := xs) hsz.out hON.out)
    have hE := hide (edge_false he)
    obtain ⟨⟨x1, x2⟩, ⟨y1, y2⟩, k, kd, hnum, hkl, hkx, hkk⟩ := hkE.out he hl
    rw [hkk] at hk
    have HNUM := hide hnum
    clear hnum hkk
    clear hkE he ha
    obtain ⟨x, y, dx, dy⟩ := a
    simp only [Wk.nx, Wk.ny] at *
    generalize hX : x + dx = X at *
    generalize hY : y + dy = Y at *
    have HXY := hide (And.intro hX hY)
    clear hX hY
    have ex0 : (X == 0) = false := eqf (by omega)
    have dx0 := dec_of ex0
    have ex2 : (X == 2 * wd) = false := eqf (by omega)
    have dx2 := dec_of ex2
    have ey0 : (Y == 0) = false := eqf (by omega)
    have dy0 := dec_of ey0
    have ey2 : (Y == 2 * ht) = false := eqf (by omega)
    have dy2 := dec_of ey2
    have ek1 : (kd == 1) = false := eqf (by omega)
    have dk1 := dec_of ek1
    have ek2 : (kd == 2) = true := eqt (by omega)
    have dk2 := dec_of ek2
    clear h1 h2 h3 h4 hk
    obtain ⟨s1, s2, s3, s4⟩ := hsz.out
    obtain ⟨wka_x1, wkb_x1, wkc_x1, wkd_x1⟩ := ((Bx.new_ w (w.heap.size) 112 #[.int .i64 x, .int .i64 y, .int .i64 dx, .int .i64 dy] (by simp)).alloc (.cells #[.int .i64 0, .int .i64 0, .int .i64 0, .int .i64 0] 112)).four
    go_enter Try.func170, Try.ntmps170
    go_wp2_with fail
    refine ((HX.out _)).mono ?_
    rintro e w1 ⟨rfl, hb1⟩
    have wk_1 := ((Bx.new_ w (w.heap.size) 112 #[.int .i64 x, .int .i64 y, .int .i64 dx, .int .i64 dy] (by simp)).alloc (.cells #[.int .i64 0, .int .i64 0, .int .i64 0, .int .i64 0] 112)).below hb1
    obtain ⟨wka_1, wkb_1, wkc_1, wkd_1⟩ := (wk_1).four
    have r_1 := (Bx.new_ (w.alloc (.cells #[.int .i64 x, .int .i64 y, .int .i64 dx, .int .i64 dy] 112)) (w.heap.size + 1) 112 #[.int .i64 0, .int .i64 0, .int .i64 0, .int .i64 0] (by simp)).below hb1
    obtain ⟨ra_1, rb_1, rc_1, rd_1⟩ := (r_1).four
    have rf0_1 := (r_1).frozen 0
    have rf1_1 := (r_1).frozen 1
    have rf2_1 := (r_1).frozen 2
    have rf3_1 := (r_1).frozen 3
    have z_1 : ((w.alloc (.cells #[.int .i64 x, .int .i64 y, .int .i64 dx, .int .i64 dy] 112)).alloc (.cells #[.int .i64 0, .int .i64 0, .int .i64 0, .int .i64 0] 112)).heap.size ≤ w1.heap.size := hb1.size
    simp only [World.size_alloc] at z_1
    have B_1 := (((Below.refl w.heap.size w).alloc (by first | omega | (simp; omega) | simp) (.cells #[.int .i64 x, .int .i64 y, .int .i64 dx, .int .i64 dy] 112)).alloc (by first | omega | (simp; omega) | simp) (.cells #[.int .i64 0, .int .i64 0, .int .i64 0, .int .i64 0] 112)).trans (hb1.mono (by first | omega | (simp; omega) | simp))
    obtain ⟨wka_b, wkb_b, wkc_b, wkd_b⟩ := ((wk_1).alloc (.cells #[.int .i64 X, .int .i64 Y] 110)).four
    obtain ⟨pa_b, pb_b⟩ := (Bx.new_ w1 (w1.heap.size) 110 #[.int .i64 X, .int .i64 Y] (by simp)).two
    obtain ⟨pa_x3, pb_x3⟩ := ((Bx.new_ w1 (w1.heap.size) 110 #[.int .i64 X, .int .i64 Y] (by simp)).alloc (.cells #[.int .i64 X, .int .i64 Y, .int .i64 dx, .int .i64 dy] 112)).two
    obtain ⟨oa_x3, ob_x3, oc_x3, od_x3⟩ := (Bx.new_ (w1.alloc (.cells #[.int .i64 X, .int .i64 Y] 110)) (w1.heap.size + 1) 112 #[.int .i64 X, .int .i64 Y, .int .i64 dx, .int .i64 dy] (by simp)).four
    have of0_x3 := (Bx.new_ (w1.alloc (.cells #[.int .i64 X, .int .i64 Y] 110)) (w1.heap.size + 1) 112 #[.int .i64 X, .int .i64 Y, .int .i64 dx, .int .i64 dy] (by simp)).frozen 0
    have of1_x3 := (Bx.new_ (w1.alloc (.cells #[.int .i64 X, .int .i64 Y] 110)) (w1.heap.size + 1) 112 #[.int .i64 X, .int .i64 Y, .int .i64 dx, .int .i64 dy] (by simp)).frozen 1
    have of2_x3 := (Bx.new_ (w1.alloc (.cells #[.int .i64 X, .int .i64 Y] 110)) (w1.heap.size + 1) 112 #[.int .i64 X, .int .i64 Y, .int .i64 dx, .int .i64 dy] (by simp)).frozen 2
    have of3_x3 := (Bx.new_ (w1.alloc (.cells #[.int .i64 X, .int .i64 Y] 110)) (w1.heap.size + 1) 112 #[.int .i64 X, .int .i64 Y, .int .i64 dx, .int .i64 dy] (by simp)).frozen 3
    obtain ⟨wka_x3, wkb_x3, wkc_x3, wkd_x3⟩ := (((wk_1).alloc (.cells #[.int .i64 X, .int .i64 Y] 110)).alloc (.cells #[.int .i64 X, .int .i64 Y, .int .i64 dx, .int .i64 dy] 112)).four
    have c0_1 := (hp.below (((B_1).alloc (by first | omega | (simp; omega) | simp) (.cells #[.int .i64 X, .int .i64 Y] 110)).alloc (by first | omega | (simp; omega) | simp) (.cells #[.int .i64 X, .int .i64 Y, .int .i64 dx, .int .i64 dy] 112))).c0
    have c1_1 := (hp.below (((B_1).alloc (by first | omega | (simp; omega) | simp) (.cells #[.int .i64 X, .int .i64 Y] 110)).alloc (by first | omega | (simp; omega) | simp) (.cells #[.int .i64 X, .int .i64 Y, .int .i64 dx, .int .i64 dy] 112))).c1
    go_wp2_with fail
    go_quiet (fail)
    rename Nat => n1
    obtain ⟨pa_x4, pb_x4⟩ := (((Bx.new_ w1 (w1.heap.size) 110 #[.int .i64 X, .int .i64 Y] (by simp)).alloc (.cells #[.int .i64 X, .int .i64 Y, .int .i64 dx, .int .i64 dy] 112)).drewN n1).two
    obtain ⟨oa_x4, ob_x4, oc_x4, od_x4⟩ := ((Bx.new_ (w1.alloc (.cells #[.int .i64 X, .int .i64 Y] 110)) (w1.heap.size + 1) 112 #[.int .i64 X, .int .i64 Y, .int .i64 dx, .int .i64 dy] (by simp)).drewN n1).four
    have of0_x4 := ((Bx.new_ (w1.alloc (.cells #[.int .i64 X, .int .i64 Y] 110)) (w1.heap.size + 1) 112 #[.int .i64 X, .int .i64 Y, .int .i64 dx, .int .i64 dy] (by simp)).drewN n1).frozen 0
    have of1_x4 := ((Bx.new_ (w1.alloc (.cells #[.int .i64 X, .int .i64 Y] 110)) (w1.heap.size + 1) 112 #[.int .i64 X, .int .i64 Y, .int .i64 dx, .int .i64 dy] (by simp)).drewN n1).frozen 1
    have of2_x4 := ((Bx.new_ (w1.alloc (.cells #[.int .i64 X, .int .i64 Y] 110)) (w1.heap.size + 1) 112 #[.int .i64 X, .int .i64 Y, .int .i64 dx, .int .i64 dy] (by simp)).drewN n1).frozen 2
    have of3_x4 := ((Bx.new_ (w1.alloc (.cells #[.int .i64 X, .int .i64 Y] 110)) (w1.heap.size + 1) 112 #[.int .i64 X, .int .i64 Y, .int .i64 dx, .int .i64 dy] (by simp)).drewN n1).frozen 3
    have c0_2 := (hp.below (below_drewN' (((B_1).alloc (by first | omega | (simp; omega) | simp) (.cells #[.int .i64 X, .int .i64 Y] 110)).alloc (by first | omega | (simp; omega) | simp) (.cells #[.int .i64 X, .int .i64 Y, .int .i64 dx, .int .i64 dy] 112)) n1)).c0
    have c1_2 := (hp.below (below_drewN' (((B_1).alloc (by first | omega | (simp; omega) | simp) (.cells #[.int .i64 X, .int .i64 Y] 110)).alloc (by first | omega | (simp; omega) | simp) (.cells #[.int .i64 X, .int .i64 Y, .int .i64 dx, .int .i64 dy] 112)) n1)).c1
    go_wp2_with fail
    go_quiet (fail)
    rename Nat => n2
    obtain ⟨pa_x4, pb_x4⟩ := (((Bx.new_ w1 (w1.heap.size) 110 #[.int .i64 X, .int .i64 Y] (by simp)).alloc (.cells #[.int .i64 X, .int .i64 Y, .int .i64 dx, .int .i64 dy] 112)).drewN (n1 + n2)).two
    obtain ⟨oa_x4, ob_x4, oc_x4, od_x4⟩ := ((Bx.new_ (w1.alloc (.cells #[.int .i64 X, .int .i64 Y] 110)) (w1.heap.size + 1) 112 #[.int .i64 X, .int .i64 Y, .int .i64 dx, .int .i64 dy] (by simp)).drewN (n1 + n2)).four
    have of0_x4 := ((Bx.new_ (w1.alloc (.cells #[.int .i64 X, .int .i64 Y] 110)) (w1.heap.size + 1) 112 #[.int .i64 X, .int .i64 Y, .int .i64 dx, .int .i64 dy] (by simp)).drewN (n1 + n2)).frozen 0
    have of1_x4 := ((Bx.new_ (w1.alloc (.cells #[.int .i64 X, .int .i64 Y] 110)) (w1.heap.size + 1) 112 #[.int .i64 X, .int .i64 Y, .int .i64 dx, .int .i64 dy] (by simp)).drewN (n1 + n2)).frozen 1
    have of2_x4 := ((Bx.new_ (w1.alloc (.cells #[.int .i64 X, .int .i64 Y] 110)) (w1.heap.size + 1) 112 #[.int .i64 X, .int .i64 Y, .int .i64 dx, .int .i64 dy] (by simp)).drewN (n1 + n2)).frozen 2
    have of3_x4 := ((Bx.new_ (w1.alloc (.cells #[.int .i64 X, .int .i64 Y] 110)) (w1.heap.size + 1) 112 #[.int .i64 X, .int .i64 Y, .int .i64 dx, .int .i64 dy] (by simp)).drewN (n1 + n2)).frozen 3
    go_wp2_with fail
    refine ((l02Edge_any b0 wd ht X Y A c xs _ (hp.below (below_drewN' (((B_1).alloc (by first | omega | (simp; omega) | simp) (.cells #[.int .i64 X, .int .i64 Y] 110)).alloc (by first | omega | (simp; omega) | simp) (.cells #[.int .i64 X, .int .i64 Y, .int .i64 dx, .int .i64 dy] 112)) (n1 + n2))) hsz.out)).mono ?_
    rintro e w3 ⟨rfl, hb3⟩
    have wk_3 := ((((wk_1).alloc (.cells #[.int .i64 X, .int .i64 Y] 110)).alloc (.cells #[.int .i64 X, .int .i64 Y, .int .i64 dx, .int .i64 dy] 112)).drewN (n1 + n2)).below hb3
    obtain ⟨wka_3, wkb_3, wkc_3, wkd_3⟩ := (wk_3).four
    have r_3 := ((((r_1).alloc (.cells #[.int .i64 X, .int .i64 Y] 110)).alloc (.cells #[.int .i64 X, .int .i64 Y, .int .i64 dx, .int .i64 dy] 112)).drewN (n1 + n2)).below hb3
    obtain ⟨ra_3, rb_3, rc_3, rd_3⟩ := (r_3).four
    have rf0_3 := (r_3).frozen 0
    have rf1_3 := (r_3).frozen 1
    have rf2_3 := (r_3).frozen 2
    have rf3_3 := (r_3).frozen 3
    have p_3 := (((Bx.new_ w1 (w1.heap.size) 110 #[.int .i64 X, .int .i64 Y] (by simp)).alloc (.cells #[.int .i64 X, .int .i64 Y, .int .i64 dx, .int .i64 dy] 112)).drewN (n1 + n2)).below hb3
    obtain ⟨pa_3, pb_3⟩ := (p_3).two
    have o_3 := ((Bx.new_ (w1.alloc (.cells #[.int .i64 X, .int .i64 Y] 110)) (w1.heap.size + 1) 112 #[.int .i64 X, .int .i64 Y, .int .i64 dx, .int .i64 dy] (by simp)).drewN (n1 + n2)).below hb3
    obtain ⟨oa_3, ob_3, oc_3, od_3⟩ := (o_3).four
    have of0_3 := (o_3).frozen 0
    have of1_3 := (o_3).frozen 1
    have of2_3 := (o_3).frozen 2
    have of3_3 := (o_3).frozen 3
    have z_3 : (((w1.alloc (.cells #[.int .i64 X, .int .i64 Y] 110)).alloc (.cells #[.int .i64 X, .int .i64 Y, .int .i64 dx, .int .i64 dy] 112)).drewN (n1 + n2)).heap.size ≤ w3.heap.size := hb3.size
    simp only [World.size_alloc, size_drewN] at z_3
    have B_3 := (below_drewN' (((B_1).alloc (by first | omega | (simp; omega) | simp) (.cells #[.int .i64 X, .int .i64 Y] 110)).alloc (by first | omega | (simp; omega) | simp) (.cells #[.int .i64 X, .int .i64 Y, .int .i64 dx, .int .i64 dy] 112)) (n1 + n2)).trans (hb3.mono (by first | omega | (simp; omega) | simp))
    rw [hE.out]
    obtain ⟨ra_c, rb_c, rc_c, rd_c⟩ := (r_3).four
    have rf0_c := (r_3).frozen 0
    have rf1_c := (r_3).frozen 1
    have rf2_c := (r_3).frozen 2
    have rf3_c := (r_3).frozen 3
    obtain ⟨oa_c, ob_c, oc_c, od_c⟩ := (o_3).four
    have of0_c := (o_3).frozen 0
    have of1_c := (o_3).frozen 1
    have of2_c := (o_3).frozen 2
    have of3_c := (o_3).frozen 3
    obtain ⟨pa_c, pb_c⟩ := (p_3).two
    have hC0 : Below w3.heap.size w3 w3.drew := (Below.refl _ _).drew
    have f0 : ∀ p : BelowOf w3, p.w.cell? ⟨b0, 2, none⟩ = some (.slice A xs.length c) := fun p => ((hp.below (B_3)).below p.h).c2
    have hpl := (p_3)
    have f1 : ∀ p : BelowOf w3, p.w.cell? ⟨w1.heap.size, 0, none⟩ = some (.int .i64 X) := fun p => (hpl.below p.h).two.1
    have f2 : ∀ p : BelowOf w3, p.w.cell? ⟨w1.heap.size, 1, none⟩ = some (.int .i64 Y) := fun p => (hpl.below p.h).two.2
    obtain ⟨b, off, kd', rfl, hb, hkx', hc⟩ := (hp.below (B_3)).rd.at_ (k := k) hkl
    obtain rfl : kd' = kd := by rw [hkx] at hkx'; injection hkx' with h; exact h.symm
    have hcp : ∀ p : BelowOf w3, p.w.cell? ⟨b, off + k, none⟩ = some (.int .i64 kd') := fun p => by
      obtain ⟨b', off', kd2, e1, _, e2, e3⟩ := ((hp.below (B_3)).below p.h).rd.at_ (k := k) hkl
      injection e1 with e1
      injection e1 with e4 e5
      subst e4 e5
      rw [hkx'] at e2
      injection e2 with e2
      subst e2
      exact e3
    have HCN : ∀ p : BelowOf w3, Calls Try.prog 174 #[.pointer (some ⟨b0, 0, none⟩), .agg #[.int .i64 X, .int .i64 Y]] p.w (RetV p.w (.int .i64 (k : Int))) := fun p => by
      rw [← HNUM.out]
      exact l02Number_any b0 wd ht X Y _ c xs p.w ((hp.below (B_3)).below p.h) hsz.out.1 hsz.out.2.1 y1 y2 x1 x2
    go_wp2_with fail
    refine region_below (by kernel_rfl) (by kernel_rfl) hC0 ?_
    repeat (go_big_quiet_step (first | exact BelowOf.ret (HCN _)))
    refine wpQuiet_nil ?_
    rintro w4 ⟨⟨w4, hb4⟩, rfl⟩
    have wk_4 := (wk_3).below hb4
    obtain ⟨wka_4, wkb_4, wkc_4, wkd_4⟩ := (wk_4).four
    have r_4 := (r_3).below hb4
    obtain ⟨ra_4, rb_4, rc_4, rd_4⟩ := (r_4).four
    have rf0_4 := (r_4).frozen 0
    have rf1_4 := (r_4).frozen 1
    have rf2_4 := (r_4).frozen 2
    have rf3_4 := (r_4).frozen 3
    have p_4 := (p_3).below hb4
    obtain ⟨pa_4, pb_4⟩ := (p_4).two
    have o_4 := (o_3).below hb4
    obtain ⟨oa_4, ob_4, oc_4, od_4⟩ := (o_4).four
    have of0_4 := (o_4).frozen 0
    have of1_4 := (o_4).frozen 1
    have of2_4 := (o_4).frozen 2
    have of3_4 := (o_4).frozen 3
    have z_4 : w3.heap.size ≤ w4.heap.size := hb4.size
    have B_4 := (B_3).trans (hb4.mono (by first | omega | (simp; omega) | simp))
    clear f0 f1 f2 hcp HCN
    obtain ⟨oa_d, ob_d, oc_d, od_d⟩ := ((o_4).set_ 3 (.int .i64 (-dy))).four
    have of0_d := ((o_4).set_ 3 (.int .i64 (-dy))).frozen 0
    have of1_d := ((o_4).set_ 3 (.int .i64 (-dy))).frozen 1
    have of2_d := ((o_4).set_ 3 (.int .i64 (-dy))).frozen 2
    have of3_d := ((o_4).set_ 3 (.int .i64 (-dy))).frozen 3
    go_wp2_with fail
    obtain ⟨ra_z, rb_z, rc_z, rd_z⟩ := ((((((r_4).far (p := ⟨(w1.heap.size + 1), 3, none⟩) (by first | omega | (simp; omega) | simp) (.int .i64 (-dy))).set_ 0 (.int .i64 (X))).set_ 1 (.int .i64 (Y))).set_ 2 (.int .i64 (dx))).set_ 3 (.int .i64 (-dy))).four
    have rf0_z := ((((((r_4).far (p := ⟨(w1.heap.size + 1), 3, none⟩) (by first | omega | (simp; omega) | simp) (.int .i64 (-dy))).set_ 0 (.int .i64 (X))).set_ 1 (.int .i64 (Y))).set_ 2 (.int .i64 (dx))).set_ 3 (.int .i64 (-dy))).frozen 0
    have rf1_z := ((((((r_4).far (p := ⟨(w1.heap.size + 1), 3, none⟩) (by first | omega | (simp; omega) | simp) (.int .i64 (-dy))).set_ 0 (.int .i64 (X))).set_ 1 (.int .i64 (Y))).set_ 2 (.int .i64 (dx))).set_ 3 (.int .i64 (-dy))).frozen 1
    have rf2_z := ((((((r_4).far (p := ⟨(w1.heap.size + 1), 3, none⟩) (by first | omega | (simp; omega) | simp) (.int .i64 (-dy))).set_ 0 (.int .i64 (X))).set_ 1 (.int .i64 (Y))).set_ 2 (.int .i64 (dx))).set_ 3 (.int .i64 (-dy))).frozen 2
    have rf3_z := ((((((r_4).far (p := ⟨(w1.heap.size + 1), 3, none⟩) (by first | omega | (simp; omega) | simp) (.int .i64 (-dy))).set_ 0 (.int .i64 (X))).set_ 1 (.int .i64 (Y))).set_ 2 (.int .i64 (dx))).set_ 3 (.int .i64 (-dy))).frozen 3
    refine bodyPost_ret (v := .agg #[.int .i64 X, .int .i64 Y, .int .i64 (dx), .int .i64 (-dy)]) (by simp [results, Try.results170, go_sem, ra_z, rb_z, rc_z, rd_z]) rfl ?_
    exact ⟨rfl, ((((((B_4).setCell (p := ⟨(w1.heap.size + 1), 3, none⟩) (by first | omega | (simp; omega) | simp) (.int .i64 (-dy))).setCell (p := ⟨(w.heap.size + 1), 0, none⟩) (by first | omega | (simp; omega) | simp) (.int .i64 (X))).setCell (p := ⟨(w.heap.size + 1), 1, none⟩) (by first | omega | (simp; omega) | simp) (.int .i64 (Y))).setCell (p := ⟨(w.heap.size + 1), 2, none⟩) (by first | omega | (simp; omega) | simp) (.int .i64 (dx))).setCell (p := ⟨(w.heap.size + 1), 3, none⟩) (by first | omega | (simp; omega) | simp) (.int .i64 (-dy)))⟩
  · intro h1 h2 h3 h4 he hk hk2
    have hkE := hide (inner_at (xs := xs) hsz.out hON.out)
    have hE := hide (edge_false he)
    obtain ⟨⟨x1, x2⟩, ⟨y1, y2⟩, k, kd, hnum, hkl, hkx, hkk⟩ := hkE.out he hl
    rw [hkk] at hk hk2
    have HNUM := hide hnum
    clear hnum hkk
    clear hkE he ha
    obtain ⟨x, y, dx, dy⟩ := a
    simp only [Wk.nx, Wk.ny] at *
    generalize hX : x + dx = X at *
    generalize hY : y + dy = Y at *
    have HXY := hide (And.intro hX hY)
    clear hX hY
    have ex0 : (X == 0) = false := eqf (by omega)
    have dx0 := dec_of ex0
    have ex2 : (X == 2 * wd) = false := eqf (by omega)
    have dx2 := dec_of ex2
    have ey0 : (Y == 0) = false := eqf (by omega)
    have dy0 := dec_of ey0
    have ey2 : (Y == 2 * ht) = false := eqf (by omega)
    have dy2 := dec_of ey2
    have ek1 : (kd == 1) = false := eqf (by omega)
    have dk1 := dec_of ek1
    have ek2 : (kd == 2) = false := eqf (by omega)
    have dk2 := dec_of ek2
    clear h1 h2 h3 h4 hk hk2
    obtain ⟨s1, s2, s3, s4⟩ := hsz.out
    obtain ⟨wka_x1, wkb_x1, wkc_x1, wkd_x1⟩ := ((Bx.new_ w (w.heap.size) 112 #[.int .i64 x, .int .i64 y, .int .i64 dx, .int .i64 dy] (by simp)).alloc (.cells #[.int .i64 0, .int .i64 0, .int .i64 0, .int .i64 0] 112)).four
    go_enter Try.func170, Try.ntmps170
    go_wp2_with fail
    refine ((HX.out _)).mono ?_
    rintro e w1 ⟨rfl, hb1⟩
    have wk_1 := ((Bx.new_ w (w.heap.size) 112 #[.int .i64 x, .int .i64 y, .int .i64 dx, .int .i64 dy] (by simp)).alloc (.cells #[.int .i64 0, .int .i64 0, .int .i64 0, .int .i64 0] 112)).below hb1
    obtain ⟨wka_1, wkb_1, wkc_1, wkd_1⟩ := (wk_1).four
    have r_1 := (Bx.new_ (w.alloc (.cells #[.int .i64 x, .int .i64 y, .int .i64 dx, .int .i64 dy] 112)) (w.heap.size + 1) 112 #[.int .i64 0, .int .i64 0, .int .i64 0, .int .i64 0] (by simp)).below hb1
    obtain ⟨ra_1, rb_1, rc_1, rd_1⟩ := (r_1).four
    have rf0_1 := (r_1).frozen 0
    have rf1_1 := (r_1).frozen 1
    have rf2_1 := (r_1).frozen 2
    have rf3_1 := (r_1).frozen 3
    have z_1 : ((w.alloc (.cells #[.int .i64 x, .int .i64 y, .int .i64 dx, .int .i64 dy] 112)).alloc (.cells #[.int .i64 0, .int .i64 0, .int .i64 0, .int .i64 0] 112)).heap.size ≤ w1.heap.size := hb1.size
    simp only [World.size_alloc] at z_1
    have B_1 := (((Below.refl w.heap.size w).alloc (by first | omega | (simp; omega) | simp) (.cells #[.int .i64 x, .int .i64 y, .int .i64 dx, .int .i64 dy] 112)).alloc (by first | omega | (simp; omega) | simp) (.cells #[.int .i64 0, .int .i64 0, .int .i64 0, .int .i64 0] 112)).trans (hb1.mono (by first | omega | (simp; omega) | simp))
    obtain ⟨wka_b, wkb_b, wkc_b, wkd_b⟩ := ((wk_1).alloc (.cells #[.int .i64 X, .int .i64 Y] 110)).four
    obtain ⟨pa_b, pb_b⟩ := (Bx.new_ w1 (w1.heap.size) 110 #[.int .i64 X, .int .i64 Y] (by simp)).two
    obtain ⟨pa_x3, pb_x3⟩ := ((Bx.new_ w1 (w1.heap.size) 110 #[.int .i64 X, .int .i64 Y] (by simp)).alloc (.cells #[.int .i64 X, .int .i64 Y, .int .i64 dx, .int .i64 dy] 112)).two
    obtain ⟨oa_x3, ob_x3, oc_x3, od_x3⟩ := (Bx.new_ (w1.alloc (.cells #[.int .i64 X, .int .i64 Y] 110)) (w1.heap.size + 1) 112 #[.int .i64 X, .int .i64 Y, .int .i64 dx, .int .i64 dy] (by simp)).four
    have of0_x3 := (Bx.new_ (w1.alloc (.cells #[.int .i64 X, .int .i64 Y] 110)) (w1.heap.size + 1) 112 #[.int .i64 X, .int .i64 Y, .int .i64 dx, .int .i64 dy] (by simp)).frozen 0
    have of1_x3 := (Bx.new_ (w1.alloc (.cells #[.int .i64 X, .int .i64 Y] 110)) (w1.heap.size + 1) 112 #[.int .i64 X, .int .i64 Y, .int .i64 dx, .int .i64 dy] (by simp)).frozen 1
    have of2_x3 := (Bx.new_ (w1.alloc (.cells #[.int .i64 X, .int .i64 Y] 110)) (w1.heap.size + 1) 112 #[.int .i64 X, .int .i64 Y, .int .i64 dx, .int .i64 dy] (by simp)).frozen 2
    have of3_x3 := (Bx.new_ (w1.alloc (.cells #[.int .i64 X, .int .i64 Y] 110)) (w1.heap.size + 1) 112 #[.int .i64 X, .int .i64 Y, .int .i64 dx, .int .i64 dy] (by simp)).frozen 3
    obtain ⟨wka_x3, wkb_x3, wkc_x3, wkd_x3⟩ := (((wk_1).alloc (.cells #[.int .i64 X, .int .i64 Y] 110)).alloc (.cells #[.int .i64 X, .int .i64 Y, .int .i64 dx, .int .i64 dy] 112)).four
    have c0_1 := (hp.below (((B_1).alloc (by first | omega | (simp; omega) | simp) (.cells #[.int .i64 X, .int .i64 Y] 110)).alloc (by first | omega | (simp; omega) | simp) (.cells #[.int .i64 X, .int .i64 Y, .int .i64 dx, .int .i64 dy] 112))).c0
    have c1_1 := (hp.below (((B_1).alloc (by first | omega | (simp; omega) | simp) (.cells #[.int .i64 X, .int .i64 Y] 110)).alloc (by first | omega | (simp; omega) | simp) (.cells #[.int .i64 X, .int .i64 Y, .int .i64 dx, .int .i64 dy] 112))).c1
    go_wp2_with fail
    go_quiet (fail)
    rename Nat => n1
    obtain ⟨pa_x4, pb_x4⟩ := (((Bx.new_ w1 (w1.heap.size) 110 #[.int .i64 X, .int .i64 Y] (by simp)).alloc (.cells #[.int .i64 X, .int .i64 Y, .int .i64 dx, .int .i64 dy] 112)).drewN n1).two
    obtain ⟨oa_x4, ob_x4, oc_x4, od_x4⟩ := ((Bx.new_ (w1.alloc (.cells #[.int .i64 X, .int .i64 Y] 110)) (w1.heap.size + 1) 112 #[.int .i64 X, .int .i64 Y, .int .i64 dx, .int .i64 dy] (by simp)).drewN n1).four
    have of0_x4 := ((Bx.new_ (w1.alloc (.cells #[.int .i64 X, .int .i64 Y] 110)) (w1.heap.size + 1) 112 #[.int .i64 X, .int .i64 Y, .int .i64 dx, .int .i64 dy] (by simp)).drewN n1).frozen 0
    have of1_x4 := ((Bx.new_ (w1.alloc (.cells #[.int .i64 X, .int .i64 Y] 110)) (w1.heap.size + 1) 112 #[.int .i64 X, .int .i64 Y, .int .i64 dx, .int .i64 dy] (by simp)).drewN n1).frozen 1
    have of2_x4 := ((Bx.new_ (w1.alloc (.cells #[.int .i64 X, .int .i64 Y] 110)) (w1.heap.size + 1) 112 #[.int .i64 X, .int .i64 Y, .int .i64 dx, .int .i64 dy] (by simp)).drewN n1).frozen 2
    have of3_x4 := ((Bx.new_ (w1.alloc (.cells #[.int .i64 X, .int .i64 Y] 110)) (w1.heap.size + 1) 112 #[.int .i64 X, .int .i64 Y, .int .i64 dx, .int .i64 dy] (by simp)).drewN n1).frozen 3
    have c0_2 := (hp.below (below_drewN' (((B_1).alloc (by first | omega | (simp; omega) | simp) (.cells #[.int .i64 X, .int .i64 Y] 110)).alloc (by first | omega | (simp; omega) | simp) (.cells #[.int .i64 X, .int .i64 Y, .int .i64 dx, .int .i64 dy] 112)) n1)).c0
    have c1_2 := (hp.below (below_drewN' (((B_1).alloc (by first | omega | (simp; omega) | simp) (.cells #[.int .i64 X, .int .i64 Y] 110)).alloc (by first | omega | (simp; omega) | simp) (.cells #[.int .i64 X, .int .i64 Y, .int .i64 dx, .int .i64 dy] 112)) n1)).c1
    go_wp2_with fail
    go_quiet (fail)
    rename Nat => n2
    obtain ⟨pa_x4, pb_x4⟩ := (((Bx.new_ w1 (w1.heap.size) 110 #[.int .i64 X, .int .i64 Y] (by simp)).alloc (.cells #[.int .i64 X, .int .i64 Y, .int .i64 dx, .int .i64 dy] 112)).drewN (n1 + n2)).two
    obtain ⟨oa_x4, ob_x4, oc_x4, od_x4⟩ := ((Bx.new_ (w1.alloc (.cells #[.int .i64 X, .int .i64 Y] 110)) (w1.heap.size + 1) 112 #[.int .i64 X, .int .i64 Y, .int .i64 dx, .int .i64 dy] (by simp)).drewN (n1 + n2)).four
    have of0_x4 := ((Bx.new_ (w1.alloc (.cells #[.int .i64 X, .int .i64 Y] 110)) (w1.heap.size + 1) 112 #[.int .i64 X, .int .i64 Y, .int .i64 dx, .int .i64 dy] (by simp)).drewN (n1 + n2)).frozen 0
    have of1_x4 := ((Bx.new_ (w1.alloc (.cells #[.int .i64 X, .int .i64 Y] 110)) (w1.heap.size + 1) 112 #[.int .i64 X, .int .i64 Y, .int .i64 dx, .int .i64 dy] (by simp)).drewN (n1 + n2)).frozen 1
    have of2_x4 := ((Bx.new_ (w1.alloc (.cells #[.int .i64 X, .int .i64 Y] 110)) (w1.heap.size + 1) 112 #[.int .i64 X, .int .i64 Y, .int .i64 dx, .int .i64 dy] (by simp)).drewN (n1 + n2)).frozen 2
    have of3_x4 := ((Bx.new_ (w1.alloc (.cells #[.int .i64 X, .int .i64 Y] 110)) (w1.heap.size + 1) 112 #[.int .i64 X, .int .i64 Y, .int .i64 dx, .int .i64 dy] (by simp)).drewN (n1 + n2)).frozen 3
    go_wp2_with fail
    refine ((l02Edge_any b0 wd ht X Y A c xs _ (hp.below (below_drewN' (((B_1).alloc (by first | omega | (simp; omega) | simp) (.cells #[.int .i64 X, .int .i64 Y] 110)).alloc (by first | omega | (simp; omega) | simp) (.cells #[.int .i64 X, .int .i64 Y, .int .i64 dx, .int .i64 dy] 112)) (n1 + n2))) hsz.out)).mono ?_
    rintro e w3 ⟨rfl, hb3⟩
    have wk_3 := ((((wk_1).alloc (.cells #[.int .i64 X, .int .i64 Y] 110)).alloc (.cells #[.int .i64 X, .int .i64 Y, .int .i64 dx, .int .i64 dy] 112)).drewN (n1 + n2)).below hb3
    obtain ⟨wka_3, wkb_3, wkc_3, wkd_3⟩ := (wk_3).four
    have r_3 := ((((r_1).alloc (.cells #[.int .i64 X, .int .i64 Y] 110)).alloc (.cells #[.int .i64 X, .int .i64 Y, .int .i64 dx, .int .i64 dy] 112)).drewN (n1 + n2)).below hb3
    obtain ⟨ra_3, rb_3, rc_3, rd_3⟩ := (r_3).four
    have rf0_3 := (r_3).frozen 0
    have rf1_3 := (r_3).frozen 1
    have rf2_3 := (r_3).frozen 2
    have rf3_3 := (r_3).frozen 3
    have p_3 := (((Bx.new_ w1 (w1.heap.size) 110 #[.int .i64 X, .int .i64 Y] (by simp)).alloc (.cells #[.int .i64 X, .int .i64 Y, .int .i64 dx, .int .i64 dy] 112)).drewN (n1 + n2)).below hb3
    obtain ⟨pa_3, pb_3⟩ := (p_3).two
    have o_3 := ((Bx.new_ (w1.alloc (.cells #[.int .i64 X, .int .i64 Y] 110)) (w1.heap.size + 1) 112 #[.int .i64 X, .int .i64 Y, .int .i64 dx, .int .i64 dy] (by simp)).drewN (n1 + n2)).below hb3
    obtain ⟨oa_3, ob_3, oc_3, od_3⟩ := (o_3).four
    have of0_3 := (o_3).frozen 0
    have of1_3 := (o_3).frozen 1
    have of2_3 := (o_3).frozen 2
    have of3_3 := (o_3).frozen 3
    have z_3 : (((w1.alloc (.cells #[.int .i64 X, .int .i64 Y] 110)).alloc (.cells #[.int .i64 X, .int .i64 Y, .int .i64 dx, .int .i64 dy] 112)).drewN (n1 + n2)).heap.size ≤ w3.heap.size := hb3.size
    simp only [World.size_alloc, size_drewN] at z_3
    have B_3 := (below_drewN' (((B_1).alloc (by first | omega | (simp; omega) | simp) (.cells #[.int .i64 X, .int .i64 Y] 110)).alloc (by first | omega | (simp; omega) | simp) (.cells #[.int .i64 X, .int .i64 Y, .int .i64 dx, .int .i64 dy] 112)) (n1 + n2)).trans (hb3.mono (by first | omega | (simp; omega) | simp))
    rw [hE.out]
    obtain ⟨ra_c, rb_c, rc_c, rd_c⟩ := (r_3).four
    have rf0_c := (r_3).frozen 0
    have rf1_c := (r_3).frozen 1
    have rf2_c := (r_3).frozen 2
    have rf3_c := (r_3).frozen 3
    obtain ⟨oa_c, ob_c, oc_c, od_c⟩ := (o_3).four
    have of0_c := (o_3).frozen 0
    have of1_c := (o_3).frozen 1
    have of2_c := (o_3).frozen 2
    have of3_c := (o_3).frozen 3
    obtain ⟨pa_c, pb_c⟩ := (p_3).two
    have hC0 : Below w3.heap.size w3 w3.drew := (Below.refl _ _).drew
    have f0 : ∀ p : BelowOf w3, p.w.cell? ⟨b0, 2, none⟩ = some (.slice A xs.length c) := fun p => ((hp.below (B_3)).below p.h).c2
    have hpl := (p_3)
    have f1 : ∀ p : BelowOf w3, p.w.cell? ⟨w1.heap.size, 0, none⟩ = some (.int .i64 X) := fun p => (hpl.below p.h).two.1
    have f2 : ∀ p : BelowOf w3, p.w.cell? ⟨w1.heap.size, 1, none⟩ = some (.int .i64 Y) := fun p => (hpl.below p.h).two.2
    obtain ⟨b, off, kd', rfl, hb, hkx', hc⟩ := (hp.below (B_3)).rd.at_ (k := k) hkl
    obtain rfl : kd' = kd := by rw [hkx] at hkx'; injection hkx' with h; exact h.symm
    have hcp : ∀ p : BelowOf w3, p.w.cell? ⟨b, off + k, none⟩ = some (.int .i64 kd') := fun p => by
      obtain ⟨b', off', kd2, e1, _, e2, e3⟩ := ((hp.below (B_3)).below p.h).rd.at_ (k := k) hkl
      injection e1 with e1
      injection e1 with e4 e5
      subst e4 e5
      rw [hkx'] at e2
      injection e2 with e2
      subst e2
      exact e3
    have HCN : ∀ p : BelowOf w3, Calls Try.prog 174 #[.pointer (some ⟨b0, 0, none⟩), .agg #[.int .i64 X, .int .i64 Y]] p.w (RetV p.w (.int .i64 (k : Int))) := fun p => by
      rw [← HNUM.out]
      exact l02Number_any b0 wd ht X Y _ c xs p.w ((hp.below (B_3)).below p.h) hsz.out.1 hsz.out.2.1 y1 y2 x1 x2
    go_wp2_with fail
    refine region_below (by kernel_rfl) (by kernel_rfl) hC0 ?_
    repeat (go_big_quiet_step (first | exact BelowOf.ret (HCN _)))
    refine wpQuiet_nil ?_
    rintro w4 ⟨⟨w4, hb4⟩, rfl⟩
    have wk_4 := (wk_3).below hb4
    obtain ⟨wka_4, wkb_4, wkc_4, wkd_4⟩ := (wk_4).four
    have r_4 := (r_3).below hb4
    obtain ⟨ra_4, rb_4, rc_4, rd_4⟩ := (r_4).four
    have rf0_4 := (r_4).frozen 0
    have rf1_4 := (r_4).frozen 1
    have rf2_4 := (r_4).frozen 2
    have rf3_4 := (r_4).frozen 3
    have p_4 := (p_3).below hb4
    obtain ⟨pa_4, pb_4⟩ := (p_4).two
    have o_4 := (o_3).below hb4
    obtain ⟨oa_4, ob_4, oc_4, od_4⟩ := (o_4).four
    have of0_4 := (o_4).frozen 0
    have of1_4 := (o_4).frozen 1
    have of2_4 := (o_4).frozen 2
    have of3_4 := (o_4).frozen 3
    have z_4 : w3.heap.size ≤ w4.heap.size := hb4.size
    have B_4 := (B_3).trans (hb4.mono (by first | omega | (simp; omega) | simp))
    clear f0 f1 f2 hcp HCN
    obtain ⟨oa_d, ob_d, oc_d, od_d⟩ := (o_4).four
    have of0_d := (o_4).frozen 0
    have of1_d := (o_4).frozen 1
    have of2_d := (o_4).frozen 2
    have of3_d := (o_4).frozen 3
    go_wp2_with fail
    obtain ⟨ra_z, rb_z, rc_z, rd_z⟩ := (((((r_4).set_ 0 (.int .i64 (X))).set_ 1 (.int .i64 (Y))).set_ 2 (.int .i64 (dx))).set_ 3 (.int .i64 (dy))).four
    have rf0_z := (((((r_4).set_ 0 (.int .i64 (X))).set_ 1 (.int .i64 (Y))).set_ 2 (.int .i64 (dx))).set_ 3 (.int .i64 (dy))).frozen 0
    have rf1_z := (((((r_4).set_ 0 (.int .i64 (X))).set_ 1 (.int .i64 (Y))).set_ 2 (.int .i64 (dx))).set_ 3 (.int .i64 (dy))).frozen 1
    have rf2_z := (((((r_4).set_ 0 (.int .i64 (X))).set_ 1 (.int .i64 (Y))).set_ 2 (.int .i64 (dx))).set_ 3 (.int .i64 (dy))).frozen 2
    have rf3_z := (((((r_4).set_ 0 (.int .i64 (X))).set_ 1 (.int .i64 (Y))).set_ 2 (.int .i64 (dx))).set_ 3 (.int .i64 (dy))).frozen 3
    refine bodyPost_ret (v := .agg #[.int .i64 X, .int .i64 Y, .int .i64 (dx), .int .i64 (dy)]) (by simp [results, Try.results170, go_sem, ra_z, rb_z, rc_z, rd_z]) rfl ?_
    exact ⟨rfl, (((((B_4).setCell (p := ⟨(w.heap.size + 1), 0, none⟩) (by first | omega | (simp; omega) | simp) (.int .i64 (X))).setCell (p := ⟨(w.heap.size + 1), 1, none⟩) (by first | omega | (simp; omega) | simp) (.int .i64 (Y))).setCell (p := ⟨(w.heap.size + 1), 2, none⟩) (by first | omega | (simp; omega) | simp) (.int .i64 (dx))).setCell (p := ⟨(w.heap.size + 1), 3, none⟩) (by first | omega | (simp; omega) | simp) (.int .i64 (dy)))⟩
end Go.Proofs.Ytnjojnnapdhijaa
