/-
  The move that a word tells: plain law, and the contracts of both functions that read it. Conditions: the word's length is far below the machine's.
-/
import Derived.Test.YtocellbhpjiioaaGreatNum
import Derived.Test.YtocellbhpjiioaaGreatMovesTextM
namespace Go.Proofs.YtocellbhpjiioaaGreat
open Go.RowKit
set_option linter.unusedVariables false

def loop4 : List UInt8 := [108, 111, 111, 112]
def pair4 : List UInt8 := [112, 97, 105, 114]
abbrev Mv := Int × Int × Int
def wdS (p : List UInt8) (v : List (List UInt8)) : Option Mv :=
  if p = loop4 ∧ v.length = 1 ∧ (numV (v.getD 0 [])).2 = true then some (1, (numV (v.getD 0 [])).1, 0)
  else if p = pair4 ∧ v.length = 2 ∧ (numV (v.getD 0 [])).2 = true ∧ (numV (v.getD 1 [])).2 = true then some (2, (numV (v.getD 0 [])).1, (numV (v.getD 1 [])).1)
  else none
/-- the move of a word -/
def mvW (l : List UInt8) : Option Mv := if l.take 5 = loop4 ++ [58] ∨ l.take 5 = pair4 ++ [58] then wdS (l.take 4) (spl 44 (l.drop 5)) else none
theorem num_in {l : List UInt8} (h : (numV l).2 = true) : ∀ b ∈ l, digB b = true ∨ b = 45 := by
  unfold numV numT at h
  split at h
  · rename_i hc
    have hall := List.all_eq_true.1 hc.2.2
    intro b hb
    rcases l with _ | ⟨c, r⟩
    · cases hb
    · unfold ndig at hall
      by_cases e : c = 45
      · subst e
        rw [if_pos (by simp)] at hall
        rcases List.mem_cons.1 hb with rfl | hb
        · exact .inr rfl
        · exact .inl (hall b hb)
      · rw [if_neg (by simpa using e)] at hall
        exact .inl (hall b hb)
  · cases h
theorem num_no58 {l : List UInt8} (h : (58 : UInt8) ∈ l) : (numV l).2 = false := by
  cases hn : (numV l).2
  · rfl
  · rcases num_in hn 58 h with h2 | h2
    · cases h2
    · cases h2
theorem wdS_other {p : List UInt8} {v : List (List UInt8)} (h1 : p ≠ loop4) (h2 : p ≠ pair4) : wdS p v = none := by
  unfold wdS
  rw [if_neg (fun h => h1 h.1), if_neg (fun h => h2 h.1)]
theorem take5_eq {l q : List UInt8} (hq : q.length = 4) (h : l.take 5 = q ++ [58]) : l = q ++ 58 :: l.drop 5 ∧ l.take 4 = q := by
  have h1 := List.take_append_drop 5 l
  rw [h, List.append_assoc] at h1
  refine ⟨h1.symm, ?_⟩
  rw [← h1, ← hq, List.take_left]
theorem q_no58 : (58 : UInt8) ∉ loop4 ∧ (58 : UInt8) ∉ pair4 := by decide
theorem mvW_two {l p r : List UInt8} (h : spl 58 l = [p, r]) : mvW l = wdS p (spl 44 r) := by
  obtain ⟨hl, h1, h2⟩ := spl_two h
  by_cases e1 : p = loop4
  · subst e1
    have ht : l.take 5 = loop4 ++ [58] := by rw [hl]; rfl
    have ht4 : l.take 4 = loop4 := by rw [hl]; rfl
    have hd : l.drop 5 = r := by rw [hl]; rfl
    unfold mvW
    rw [if_pos (.inl ht), ht4, hd]
  · by_cases e2 : p = pair4
    · subst e2
      have ht : l.take 5 = pair4 ++ [58] := by rw [hl]; rfl
      have ht4 : l.take 4 = pair4 := by rw [hl]; rfl
      have hd : l.drop 5 = r := by rw [hl]; rfl
      unfold mvW
      rw [if_pos (.inr ht), ht4, hd]
    · rw [wdS_other e1 e2]
      unfold mvW
      rw [if_neg]
      have key : ∀ q : List UInt8, q.length = 4 → (58 : UInt8) ∉ q → l.take 5 = q ++ [58] → p = q := fun q hq hq2 ht => by
        have h3 := (take5_eq hq ht).1
        have h4 := spl_first (r := l.drop 5) hq2
        rw [← h3, h] at h4
        injection h4
      rintro (ht | ht)
      · exact e1 (key loop4 rfl q_no58.1 ht)
      · exact e2 (key pair4 rfl q_no58.2 ht)
theorem wdS_bad {q d : List UInt8} (h : (58 : UInt8) ∈ d) : wdS q (spl 44 d) = none := by
  unfold wdS
  rw [if_neg, if_neg]
  · rintro ⟨_, h2, h3, h4⟩
    obtain ⟨x, y, hxy⟩ : ∃ x y, spl 44 d = [x, y] := by
      match hm : spl 44 d, h2 with
      | [x, y], _ => exact ⟨x, y, rfl⟩
    obtain ⟨hd, _, _⟩ := spl_two hxy
    rw [hxy] at h3 h4
    rw [hd] at h
    rcases List.mem_append.1 h with h | h
    · have := num_no58 h
      simp only [List.getD_cons_zero] at h3
      rw [this] at h3
      cases h3
    · rcases List.mem_cons.1 h with h | h
      · cases h
      · have := num_no58 h
        simp only [List.getD_cons_succ, List.getD_cons_zero] at h4
        rw [this] at h4
        cases h4
  · rintro ⟨_, h2, h3⟩
    rw [spl_none (spl_one h2)] at h3
    have := num_no58 h
    simp only [List.getD_cons_zero] at h3
    rw [this] at h3
    cases h3
theorem mvW_not {l : List UInt8} (h : (spl 58 l).length ≠ 2) : mvW l = none := by
  unfold mvW
  by_cases hc : l.take 5 = loop4 ++ [58] ∨ l.take 5 = pair4 ++ [58]
  · rw [if_pos hc]
    have key : ∀ q : List UInt8, q.length = 4 → (58 : UInt8) ∉ q → l.take 5 = q ++ [58] → wdS (l.take 4) (spl 44 (l.drop 5)) = none := fun q hq hq2 ht => by
      obtain ⟨h3, h4⟩ := take5_eq hq ht
      have h5 := spl_first (r := l.drop 5) hq2
      rw [← h3] at h5
      refine wdS_bad ?_
      by_cases hm : (58 : UInt8) ∈ l.drop 5
      · exact hm
      · exfalso
        rw [h5, spl_none hm] at h
        exact h rfl
    rcases hc with ht | ht
    · exact key loop4 rfl q_no58.1 ht
    · exact key pair4 rfl q_no58.2 ht
  · rw [if_neg hc]
theorem mvW_short {l : List UInt8} (h : l.length < 5) : mvW l = none := by
  unfold mvW
  rw [if_neg]
  rintro (ht | ht) <;> have := congrArg List.length ht <;> rw [List.length_take] at this <;> simp [loop4, pair4] at this <;> omega

/-- A function that hands back the move of a word, and whether there is one. -/
def RetW (w : World) (o : Option Mv) (e : Ending) (w' : World) : Prop :=
  ∃ m : Mv, e = .returned (.tuple #[.agg #[.int .i64 m.1, .int .i64 m.2.1, .int .i64 m.2.2], .bool o.isSome]) ∧ (∀ m', o = some m' → m = m') ∧ Below w.heap.size w w'

theorem i64_zero : I64 0 := by unfold I64; omega
theorem dval_b {t : List UInt8} (h2 : t.length ≤ 18) (h3 : t.all digB = true) : 0 ≤ dval t ∧ dval t ≤ 999999999999999999 := by
  have key : ∀ i, i ≤ t.length → 0 ≤ dval (t.take i) ∧ dval (t.take i) < 10 ^ i := by
    intro i
    induction i with
    | zero =>
      intro _
      have e : dval (t.take 0) = 0 := rfl
      rw [e]
      exact ⟨Int.le_refl _, by decide⟩
    | succ i ih =>
      intro hi
      obtain ⟨q1, q2⟩ := ih (by omega)
      obtain ⟨x, hx⟩ : ∃ x, t[i]? = some x := ⟨_, List.getElem?_eq_getElem (by omega)⟩
      have hd := digB_true.1 (List.all_eq_true.1 h3 x (List.mem_of_getElem? hx))
      rw [dval_next hx]
      exact ⟨by omega, pow_next q2 (by omega)⟩
  have h4 := key t.length (Nat.le_refl _)
  rw [List.take_length] at h4
  exact ⟨h4.1, pow_18 h2 h4.2⟩
theorem num_b (l : List UInt8) : I64 (numV l).1 := by
  unfold numV
  generalize ndig l = t
  by_cases hc : 1 ≤ t.length ∧ t.length ≤ 18 ∧ t.all digB = true
  · have hb := dval_b hc.2.1 hc.2.2
    obtain ⟨n, hn⟩ : ∃ n, n = if t.length < l.length then -dval t else dval t := ⟨_, rfl⟩
    have hi : I64 n := by
      rw [hn]
      unfold I64
      split <;> omega
    rw [numT_end hc.1 hc.2.1 hc.2.2 hn]
    by_cases hd : decL n = l
    · rw [if_pos hd]; exact hi
    · rw [if_neg hd]; exact i64_zero
  · unfold numT
    rw [if_neg hc]
    exact i64_zero

set_option maxRecDepth 20000 in
set_option maxHeartbeats 8000000 in
theorem l16Word_any (l : List UInt8) (w : World) (hn : l.length ≤ 1048576) : Calls Tryz.prog 47 #[str l] w (RetW w (mvW l)) := by
  obtain ⟨ra_x1, rb_x1, rc_x1⟩ := (Bx.new_ w (w.heap.size) 46 #[.int .i64 0, .int .i64 0, .int .i64 0] (by simp)).three
  have rf0_x1 := (Bx.new_ w (w.heap.size) 46 #[.int .i64 0, .int .i64 0, .int .i64 0] (by simp)).frozen 0
  have rf1_x1 := (Bx.new_ w (w.heap.size) 46 #[.int .i64 0, .int .i64 0, .int .i64 0] (by simp)).frozen 1
  have rf2_x1 := (Bx.new_ w (w.heap.size) 46 #[.int .i64 0, .int .i64 0, .int .i64 0] (by simp)).frozen 2
  have HSP := hide (l01Split_any l 58 (w.alloc (.cells #[.int .i64 0, .int .i64 0, .int .i64 0] 46)) hn)
  have hsl := spl_len 58 l
  go_enter Tryz.func47, Tryz.ntmps47
  go_wp2_with fail
  refine HSP.out.mono ?_
  rintro e w1 ⟨A1, c1, rfl, own1, hb1⟩
  have r_1 := (Bx.new_ w (w.heap.size) 46 #[.int .i64 0, .int .i64 0, .int .i64 0] (by simp)).below hb1
  obtain ⟨ra_1, rb_1, rc_1⟩ := (r_1).three
  have rf0_1 := (r_1).frozen 0
  have rf1_1 := (r_1).frozen 1
  have rf2_1 := (r_1).frozen 2
  have z_1 : (w.alloc (.cells #[.int .i64 0, .int .i64 0, .int .i64 0] 46)).heap.size ≤ w1.heap.size := hb1.size
  simp only [World.size_alloc] at z_1
  have B_1 := ((Below.refl w.heap.size w).alloc (by first | omega | (simp; omega) | simp) (.cells #[.int .i64 0, .int .i64 0, .int .i64 0] 46)).trans (hb1.mono (by first | omega | (simp; omega) | simp))
  by_cases h2 : (spl 58 l).length = 2
  · obtain ⟨p, r, hpr⟩ : ∃ p r, spl 58 l = [p, r] := by
      match hm : spl 58 l, h2 with
      | [x, y], _ => exact ⟨x, y, rfl⟩
    have HM := hide (mvW_two hpr)
    have hrl : r.length ≤ 1048576 := by
      have := spl_part (b := 58) (l := l) (x := r) (by rw [hpr]; simp)
      omega
    rw [hpr] at own1 ⊢
    have e2 : (([p, r].length : Int) != 2) = false := rfl
    obtain ⟨g1, off1, x1, hA1, hg1, hx1, hc1⟩ := own1.rd.row (k := 1) (by simp)
    obtain ⟨g0, off0, x0, hA0, hg0, hx0, hc0⟩ := own1.rd.row (k := 0) (by simp)
    subst hA1
    injection hA0 with hA0
    injection hA0 with hA0 hA0'
    subst hA0 hA0'
    have hcr : w1.cell? ⟨g1, off1 + 1, none⟩ = some (str r) := by
      have := hc1 0 _ rfl
      injection hx1 with hx1
      subst hx1
      simpa [strE] using this
    have hcp : w1.cell? ⟨g1, off1, none⟩ = some (str p) := by
      have := hc0 0 _ rfl
      injection hx0 with hx0
      subst hx0
      simpa [strE] using this
    have hgl : g1 < w1.heap.size := hg1
    have hgr : w.heap.size + 1 ≤ g1 := by have := (own1.ge rfl).1; simp at this; omega
    clear hc1 hc0 hx1 hx0 hg0 hpr hsl
    have HS2 := hide (fun W : World => l01Split_any r 44 W hrl)
    have hvl := spl_len 44 r
    obtain ⟨v, hv⟩ : ∃ v, v = spl 44 r := ⟨_, rfl⟩
    have hvp : ∀ x ∈ v, x.length ≤ 1048576 := fun x hx => by rw [hv] at hx; have := spl_part hx; omega
    rw [← hv] at HM HS2 hvl
    clear hv own1
    go_wp2_with fail
    refine (HS2.out _).mono ?_
    rintro e w2 ⟨A2, c2, rfl, own2, hb2⟩
    have r_2 := (r_1).below hb2
    obtain ⟨ra_2, rb_2, rc_2⟩ := (r_2).three
    have rf0_2 := (r_2).frozen 0
    have rf1_2 := (r_2).frozen 1
    have rf2_2 := (r_2).frozen 2
    have z_2 : w1.heap.size ≤ w2.heap.size := hb2.size
    have B_2 := (B_1).trans (hb2.mono (by first | omega | (simp; omega) | simp))
    have hcp2 : w2.cell? ⟨g1, off1, none⟩ = some (str p) := cell_later hb2 hcp
    obtain ⟨gv, offv, v0, hA2, hgv, hv0, hcv0⟩ := own2.rd.row (k := 0) hvl.2
    have hcv : w2.cell? ⟨gv, offv, none⟩ = some (str v0) := by
      have := hcv0 0 _ rfl
      simpa [strE] using this
    have hgD : v.getD 0 [] = v0 := by rw [List.getD_eq_getElem?_getD, hv0]; rfl
    have hgvl : gv < w2.heap.size := hgv
    have HN0 := hide (fun W : World => l01Number_any v0 W (hvp v0 (List.mem_of_getElem? hv0)))
    have hnb := num_b v0
    obtain ⟨a, ha⟩ : ∃ a, a = (numV v0).1 := ⟨_, rfl⟩
    obtain ⟨one, hone⟩ : ∃ one, one = (numV v0).2 := ⟨_, rfl⟩
    have HW : Hid (mvW l = if p = loop4 ∧ v.length = 1 ∧ one = true then some (1, a, 0) else if p = pair4 ∧ v.length = 2 ∧ one = true ∧ (numV (v.getD 1 [])).2 = true then some (2, a, (numV (v.getD 1 [])).1) else none) := hide (by rw [HM.out, ha, hone, ← hgD]; rfl)
    rw [← ha, ← hone] at HN0
    rw [← ha] at hnb
    subst hA2
    have OV := hide own2
    have HVP := hide hvp
    clear hcv0 hv0 hgD ha hone HM hvp own2
    go_wp2_with fail
    refine (HN0.out _).mono ?_
    rintro e w3 ⟨rfl, hb3⟩
    have r_3 := (r_2).below hb3
    obtain ⟨ra_3, rb_3, rc_3⟩ := (r_3).three
    have rf0_3 := (r_3).frozen 0
    have rf1_3 := (r_3).frozen 1
    have rf2_3 := (r_3).frozen 2
    have z_3 : w2.heap.size ≤ w3.heap.size := hb3.size
    have B_3 := (B_2).trans (hb3.mono (by first | omega | (simp; omega) | simp))
    have hcp3 := cell_later hb3 hcp2
    have OV3 := hide (OV.out.below hb3)
    have hz23 := hb3.size
    have hz12 := hb2.size
    clear hcp2 hcp hcr hcv
    have hcp4 : (w3.alloc (.cells #[.int .i64 1, .int .i64 a, .int .i64 0] 46)).cell? ⟨g1, off1, none⟩ = some (str p) := cell_later ((Below.refl w3.heap.size w3).alloc (Nat.le_refl _) _) hcp3
    obtain ⟨ra_x2, rb_x2, rc_x2⟩ := ((r_3).alloc (.cells #[.int .i64 1, .int .i64 a, .int .i64 0] 46)).three
    have rf0_x2 := ((r_3).alloc (.cells #[.int .i64 1, .int .i64 a, .int .i64 0] 46)).frozen 0
    have rf1_x2 := ((r_3).alloc (.cells #[.int .i64 1, .int .i64 a, .int .i64 0] 46)).frozen 1
    have rf2_x2 := ((r_3).alloc (.cells #[.int .i64 1, .int .i64 a, .int .i64 0] 46)).frozen 2
    obtain ⟨ma_x2, mb_x2, mc_x2⟩ := (Bx.new_ w3 (w3.heap.size) 46 #[.int .i64 1, .int .i64 a, .int .i64 0] (by simp)).three
    have mf0_x2 := (Bx.new_ w3 (w3.heap.size) 46 #[.int .i64 1, .int .i64 a, .int .i64 0] (by simp)).frozen 0
    have mf1_x2 := (Bx.new_ w3 (w3.heap.size) 46 #[.int .i64 1, .int .i64 a, .int .i64 0] (by simp)).frozen 1
    have mf2_x2 := (Bx.new_ w3 (w3.heap.size) 46 #[.int .i64 1, .int .i64 a, .int .i64 0] (by simp)).frozen 2
    have heL : ∀ (W : World) (u : TypeId), (binOp .eql u (str p) (.string ⟨#[108, 111, 111, 112]⟩)).run Tryz.prog W = .ok (.bool (decide (p = loop4))) W := fun W u => str_eql (P := Tryz.prog) W u p loop4
    have heP : ∀ (W : World) (u : TypeId), (binOp .eql u (str p) (.string ⟨#[112, 97, 105, 114]⟩)).run Tryz.prog W = .ok (.bool (decide (p = pair4))) W := fun W u => str_eql (P := Tryz.prog) W u p pair4
    have hgL : ∀ (W : World) (x y : Operand), (eqGuard .eql 9 x y (str p) (.string ⟨#[108, 111, 111, 112]⟩)).run Tryz.prog W = .ok () W := fun W x y => guard_eql W x y p loop4
    have hgP : ∀ (W : World) (x y : Operand), (eqGuard .eql 9 x y (str p) (.string ⟨#[112, 97, 105, 114]⟩)).run Tryz.prog W = .ok () W := fun W x y => guard_eql W x y p pair4
    by_cases q1 : p = loop4
    · have q2 : ¬ p = pair4 := fun h => by rw [q1] at h; exact absurd h (by decide)
      rw [decide_eq_true q1] at heL
      rw [decide_eq_false q2] at heP
      by_cases q3 : v.length = 1
      · have f1 : ((v.length : Int) == 1) = true := by rw [q3]; rfl
        rcases one with _ | _
        ·
          have HV : Hid (mvW l = none) := hide (by rw [HW.out, if_neg (by simp), if_neg (by simp [q2])])
          clear q1 q2 q3
          have HR := hide ((((((r_3).alloc (.cells #[.int .i64 1, .int .i64 a, .int .i64 0] 46)).set_ 0 (.int .i64 1)).set_ 1 (.int .i64 a)).set_ 2 (.int .i64 0))).three
          go_wp2_with fail
          obtain ⟨ra_9, rb_9, rc_9⟩ := HR.out
          refine bodyPost_ret (v := .tuple #[.agg #[.int .i64 1, .int .i64 a, .int .i64 0], .bool false]) (by simp [results, Tryz.results47, go_sem, ra_9, rb_9, rc_9]) rfl ?_
          exact ⟨(1, a, 0), by rw [HV.out]; rfl, (fun m' h => by rw [HV.out] at h; cases h), (((((B_3).alloc (by first | omega | (simp; omega) | simp) (.cells #[.int .i64 1, .int .i64 a, .int .i64 0] 46)).setCell (p := ⟨(w.heap.size), 0, none⟩) (by first | omega | (simp; omega) | simp) (.int .i64 1)).setCell (p := ⟨(w.heap.size), 1, none⟩) (by first | omega | (simp; omega) | simp) (.int .i64 a)).setCell (p := ⟨(w.heap.size), 2, none⟩) (by first | omega | (simp; omega) | simp) (.int .i64 0))⟩
        ·
          have HV : Hid (mvW l = some (1, a, 0)) := hide (by rw [HW.out, if_pos ⟨q1, q3, rfl⟩])
          clear q1 q2 q3
          have HR := hide ((((((r_3).alloc (.cells #[.int .i64 1, .int .i64 a, .int .i64 0] 46)).set_ 0 (.int .i64 1)).set_ 1 (.int .i64 a)).set_ 2 (.int .i64 0))).three
          go_wp2_with fail
          obtain ⟨ra_9, rb_9, rc_9⟩ := HR.out
          refine bodyPost_ret (v := .tuple #[.agg #[.int .i64 1, .int .i64 a, .int .i64 0], .bool true]) (by simp [results, Tryz.results47, go_sem, ra_9, rb_9, rc_9]) rfl ?_
          exact ⟨(1, a, 0), by rw [HV.out]; rfl, (fun m' h => by rw [HV.out] at h; injection h), (((((B_3).alloc (by first | omega | (simp; omega) | simp) (.cells #[.int .i64 1, .int .i64 a, .int .i64 0] 46)).setCell (p := ⟨(w.heap.size), 0, none⟩) (by first | omega | (simp; omega) | simp) (.int .i64 1)).setCell (p := ⟨(w.heap.size), 1, none⟩) (by first | omega | (simp; omega) | simp) (.int .i64 a)).setCell (p := ⟨(w.heap.size), 2, none⟩) (by first | omega | (simp; omega) | simp) (.int .i64 0))⟩
      · have f1 : ((v.length : Int) == 1) = false := by rw [beq_eq_false_iff_ne]; omega
        rcases one with _ | _
        ·
          have HV : Hid (mvW l = none) := hide (by rw [HW.out, if_neg (by simp [q3]), if_neg (by simp [q2])])
          clear q1 q2 q3
          have HR := hide ((((((r_3).alloc (.cells #[.int .i64 1, .int .i64 a, .int .i64 0] 46)).set_ 0 (.int .i64 1)).set_ 1 (.int .i64 a)).set_ 2 (.int .i64 0))).three
          go_wp2_with fail
          obtain ⟨ra_9, rb_9, rc_9⟩ := HR.out
          refine bodyPost_ret (v := .tuple #[.agg #[.int .i64 1, .int .i64 a, .int .i64 0], .bool false]) (by simp [results, Tryz.results47, go_sem, ra_9, rb_9, rc_9]) rfl ?_
          exact ⟨(1, a, 0), by rw [HV.out]; rfl, (fun m' h => by rw [HV.out] at h; cases h), (((((B_3).alloc (by first | omega | (simp; omega) | simp) (.cells #[.int .i64 1, .int .i64 a, .int .i64 0] 46)).setCell (p := ⟨(w.heap.size), 0, none⟩) (by first | omega | (simp; omega) | simp) (.int .i64 1)).setCell (p := ⟨(w.heap.size), 1, none⟩) (by first | omega | (simp; omega) | simp) (.int .i64 a)).setCell (p := ⟨(w.heap.size), 2, none⟩) (by first | omega | (simp; omega) | simp) (.int .i64 0))⟩
        ·
          have HV : Hid (mvW l = none) := hide (by rw [HW.out, if_neg (by simp [q3]), if_neg (by simp [q2])])
          clear q1 q2 q3
          have HR := hide ((((((r_3).alloc (.cells #[.int .i64 1, .int .i64 a, .int .i64 0] 46)).set_ 0 (.int .i64 1)).set_ 1 (.int .i64 a)).set_ 2 (.int .i64 0))).three
          go_wp2_with fail
          obtain ⟨ra_9, rb_9, rc_9⟩ := HR.out
          refine bodyPost_ret (v := .tuple #[.agg #[.int .i64 1, .int .i64 a, .int .i64 0], .bool false]) (by simp [results, Tryz.results47, go_sem, ra_9, rb_9, rc_9]) rfl ?_
          exact ⟨(1, a, 0), by rw [HV.out]; rfl, (fun m' h => by rw [HV.out] at h; cases h), (((((B_3).alloc (by first | omega | (simp; omega) | simp) (.cells #[.int .i64 1, .int .i64 a, .int .i64 0] 46)).setCell (p := ⟨(w.heap.size), 0, none⟩) (by first | omega | (simp; omega) | simp) (.int .i64 1)).setCell (p := ⟨(w.heap.size), 1, none⟩) (by first | omega | (simp; omega) | simp) (.int .i64 a)).setCell (p := ⟨(w.heap.size), 2, none⟩) (by first | omega | (simp; omega) | simp) (.int .i64 0))⟩
    · rw [decide_eq_false q1] at heL
      by_cases q2 : p = pair4
      · rw [decide_eq_true q2] at heP
        by_cases q3 : v.length = 2
        · have f1 : ((v.length : Int) == 2) = true := by rw [q3]; rfl
          obtain ⟨gu, offu, v1, hA3, hgu, hv1, hcv1⟩ := OV3.out.rd.row (k := 1) (by omega)
          injection hA3 with hA3
          injection hA3 with hA3 hA3'
          subst hA3 hA3'
          have hcu : w3.cell? ⟨gv, offv + 1, none⟩ = some (str v1) := by
            have := hcv1 0 _ rfl
            simpa [strE] using this
          have hgD1 : v.getD 1 [] = v1 := by rw [List.getD_eq_getElem?_getD, hv1]; rfl
          have HN1 := hide (fun W : World => l01Number_any v1 W (HVP.out v1 (List.mem_of_getElem? hv1)))
          have hnb1 := num_b v1
          obtain ⟨b, hbb⟩ : ∃ b, b = (numV v1).1 := ⟨_, rfl⟩
          obtain ⟨fine, hfine⟩ : ∃ fine, fine = (numV v1).2 := ⟨_, rfl⟩
          have hW := HW.out
          rw [hgD1, ← hbb, ← hfine] at hW
          have HW2 := hide hW
          rw [← hbb, ← hfine] at HN1
          rw [← hbb] at hnb1
          have hgvl3 : gv < w3.heap.size := hgu
          have hm0 := (Bx.new w3 46 #[.int .i64 1, .int .i64 a, .int .i64 0]).set_ 0 (.int .i64 2)
          have hcu4 : ((w3.alloc (.cells #[.int .i64 2, .int .i64 a, .int .i64 0] 46))).cell? ⟨gv, offv + 1, none⟩ = some (str v1) := cell_later ((Below.refl w3.heap.size w3).alloc (Nat.le_refl _) _) hcu
          have hcp5 : ((w3.alloc (.cells #[.int .i64 2, .int .i64 a, .int .i64 0] 46))).cell? ⟨g1, off1, none⟩ = some (str p) := cell_later ((Below.refl w3.heap.size w3).alloc (Nat.le_refl _) _) hcp3
          have HW3 : Hid (mvW l = if one = true ∧ fine = true then some (2, a, b) else none) := hide (by
            rw [HW2.out, if_neg (by simp [q1])]
            by_cases c : one = true ∧ fine = true
            · rw [if_pos ⟨q2, q3, c.1, c.2⟩, if_pos c]
            · rw [if_neg (fun h => c ⟨h.2.2.1, h.2.2.2⟩), if_neg c])
          have f2 : (1 : Int) < (v.length : Int) := by omega
          clear hW HW hcv1 hv1 hgD1 hbb hfine hcu hm0 q1 q2 q3 HW2
          go_wp2_with fail
          refine (HN1.out _).mono ?_
          rintro e w4 ⟨rfl, hb4⟩
          have r_4 := ((r_3).alloc (.cells #[.int .i64 2, .int .i64 a, .int .i64 0] 46)).below hb4
          obtain ⟨ra_4, rb_4, rc_4⟩ := (r_4).three
          have rf0_4 := (r_4).frozen 0
          have rf1_4 := (r_4).frozen 1
          have rf2_4 := (r_4).frozen 2
          have m_4 := (Bx.new_ w3 (w3.heap.size) 46 #[.int .i64 2, .int .i64 a, .int .i64 0] (by simp)).below hb4
          obtain ⟨ma_4, mb_4, mc_4⟩ := (m_4).three
          have mf0_4 := (m_4).frozen 0
          have mf1_4 := (m_4).frozen 1
          have mf2_4 := (m_4).frozen 2
          have z_4 : (w3.alloc (.cells #[.int .i64 2, .int .i64 a, .int .i64 0] 46)).heap.size ≤ w4.heap.size := hb4.size
          simp only [World.size_alloc] at z_4
          have B_4 := ((B_3).alloc (by first | omega | (simp; omega) | simp) (.cells #[.int .i64 2, .int .i64 a, .int .i64 0] 46)).trans (hb4.mono (by first | omega | (simp; omega) | simp))
          have HR := hide ((((((r_4).far (p := ⟨(w3.heap.size), 2, none⟩) (by first | omega | (simp; omega) | simp) (.int .i64 b)).set_ 0 (.int .i64 2)).set_ 1 (.int .i64 a)).set_ 2 (.int .i64 b))).three
          rcases one with _ | _ <;> rcases fine with _ | _
          · have HV : Hid (mvW l = none) := hide (by rw [HW3.out, if_neg (by simp)])
            go_wp2_with fail
            obtain ⟨ra_9, rb_9, rc_9⟩ := HR.out
            refine bodyPost_ret (v := .tuple #[.agg #[.int .i64 2, .int .i64 a, .int .i64 b], .bool false]) (by simp [results, Tryz.results47, go_sem, ra_9, rb_9, rc_9]) rfl ?_
            exact ⟨(2, a, b), by rw [HV.out]; rfl, (fun m' h => by rw [HV.out] at h; cases h), (((((B_4).setCell (p := ⟨(w3.heap.size), 2, none⟩) (by first | omega | (simp; omega) | simp) (.int .i64 b)).setCell (p := ⟨(w.heap.size), 0, none⟩) (by first | omega | (simp; omega) | simp) (.int .i64 2)).setCell (p := ⟨(w.heap.size), 1, none⟩) (by first | omega | (simp; omega) | simp) (.int .i64 a)).setCell (p := ⟨(w.heap.size), 2, none⟩) (by first | omega | (simp; omega) | simp) (.int .i64 b))⟩
          · have HV : Hid (mvW l = none) := hide (by rw [HW3.out, if_neg (by simp)])
            go_wp2_with fail
            obtain ⟨ra_9, rb_9, rc_9⟩ := HR.out
            refine bodyPost_ret (v := .tuple #[.agg #[.int .i64 2, .int .i64 a, .int .i64 b], .bool false]) (by simp [results, Tryz.results47, go_sem, ra_9, rb_9, rc_9]) rfl ?_
            exact ⟨(2, a, b), by rw [HV.out]; rfl, (fun m' h => by rw [HV.out] at h; cases h), (((((B_4).setCell (p := ⟨(w3.heap.size), 2, none⟩) (by first | omega | (simp; omega) | simp) (.int .i64 b)).setCell (p := ⟨(w.heap.size), 0, none⟩) (by first | omega | (simp; omega) | simp) (.int .i64 2)).setCell (p := ⟨(w.heap.size), 1, none⟩) (by first | omega | (simp; omega) | simp) (.int .i64 a)).setCell (p := ⟨(w.heap.size), 2, none⟩) (by first | omega | (simp; omega) | simp) (.int .i64 b))⟩
          · have HV : Hid (mvW l = none) := hide (by rw [HW3.out, if_neg (by simp)])
            go_wp2_with fail
            obtain ⟨ra_9, rb_9, rc_9⟩ := HR.out
            refine bodyPost_ret (v := .tuple #[.agg #[.int .i64 2, .int .i64 a, .int .i64 b], .bool false]) (by simp [results, Tryz.results47, go_sem, ra_9, rb_9, rc_9]) rfl ?_
            exact ⟨(2, a, b), by rw [HV.out]; rfl, (fun m' h => by rw [HV.out] at h; cases h), (((((B_4).setCell (p := ⟨(w3.heap.size), 2, none⟩) (by first | omega | (simp; omega) | simp) (.int .i64 b)).setCell (p := ⟨(w.heap.size), 0, none⟩) (by first | omega | (simp; omega) | simp) (.int .i64 2)).setCell (p := ⟨(w.heap.size), 1, none⟩) (by first | omega | (simp; omega) | simp) (.int .i64 a)).setCell (p := ⟨(w.heap.size), 2, none⟩) (by first | omega | (simp; omega) | simp) (.int .i64 b))⟩
          · have HV : Hid (mvW l = some (2, a, b)) := hide (by rw [HW3.out, if_pos ⟨rfl, rfl⟩])
            go_wp2_with fail
            obtain ⟨ra_9, rb_9, rc_9⟩ := HR.out
            refine bodyPost_ret (v := .tuple #[.agg #[.int .i64 2, .int .i64 a, .int .i64 b], .bool true]) (by simp [results, Tryz.results47, go_sem, ra_9, rb_9, rc_9]) rfl ?_
            exact ⟨(2, a, b), by rw [HV.out]; rfl, (fun m' h => by rw [HV.out] at h; injection h), (((((B_4).setCell (p := ⟨(w3.heap.size), 2, none⟩) (by first | omega | (simp; omega) | simp) (.int .i64 b)).setCell (p := ⟨(w.heap.size), 0, none⟩) (by first | omega | (simp; omega) | simp) (.int .i64 2)).setCell (p := ⟨(w.heap.size), 1, none⟩) (by first | omega | (simp; omega) | simp) (.int .i64 a)).setCell (p := ⟨(w.heap.size), 2, none⟩) (by first | omega | (simp; omega) | simp) (.int .i64 b))⟩
        · have f1 : ((v.length : Int) == 2) = false := by rw [beq_eq_false_iff_ne]; omega
          rcases one with _ | _
          ·
            have HV : Hid (mvW l = none) := hide (by rw [HW.out, if_neg (by simp [q1]), if_neg (by simp [q3])])
            clear q1 q2 q3
            have HR := hide ((((((r_3).alloc (.cells #[.int .i64 1, .int .i64 a, .int .i64 0] 46)).set_ 0 (.int .i64 1)).set_ 1 (.int .i64 a)).set_ 2 (.int .i64 0))).three
            go_wp2_with fail
            obtain ⟨ra_9, rb_9, rc_9⟩ := HR.out
            refine bodyPost_ret (v := .tuple #[.agg #[.int .i64 1, .int .i64 a, .int .i64 0], .bool false]) (by simp [results, Tryz.results47, go_sem, ra_9, rb_9, rc_9]) rfl ?_
            exact ⟨(1, a, 0), by rw [HV.out]; rfl, (fun m' h => by rw [HV.out] at h; cases h), (((((B_3).alloc (by first | omega | (simp; omega) | simp) (.cells #[.int .i64 1, .int .i64 a, .int .i64 0] 46)).setCell (p := ⟨(w.heap.size), 0, none⟩) (by first | omega | (simp; omega) | simp) (.int .i64 1)).setCell (p := ⟨(w.heap.size), 1, none⟩) (by first | omega | (simp; omega) | simp) (.int .i64 a)).setCell (p := ⟨(w.heap.size), 2, none⟩) (by first | omega | (simp; omega) | simp) (.int .i64 0))⟩
          ·
            have HV : Hid (mvW l = none) := hide (by rw [HW.out, if_neg (by simp [q1]), if_neg (by simp [q3])])
            clear q1 q2 q3
            have HR := hide ((((((r_3).alloc (.cells #[.int .i64 1, .int .i64 a, .int .i64 0] 46)).set_ 0 (.int .i64 1)).set_ 1 (.int .i64 a)).set_ 2 (.int .i64 0))).three
            go_wp2_with fail
            obtain ⟨ra_9, rb_9, rc_9⟩ := HR.out
            refine bodyPost_ret (v := .tuple #[.agg #[.int .i64 1, .int .i64 a, .int .i64 0], .bool false]) (by simp [results, Tryz.results47, go_sem, ra_9, rb_9, rc_9]) rfl ?_
            exact ⟨(1, a, 0), by rw [HV.out]; rfl, (fun m' h => by rw [HV.out] at h; cases h), (((((B_3).alloc (by first | omega | (simp; omega) | simp) (.cells #[.int .i64 1, .int .i64 a, .int .i64 0] 46)).setCell (p := ⟨(w.heap.size), 0, none⟩) (by first | omega | (simp; omega) | simp) (.int .i64 1)).setCell (p := ⟨(w.heap.size), 1, none⟩) (by first | omega | (simp; omega) | simp) (.int .i64 a)).setCell (p := ⟨(w.heap.size), 2, none⟩) (by first | omega | (simp; omega) | simp) (.int .i64 0))⟩
      · rw [decide_eq_false q2] at heP
        rcases one with _ | _
        ·
          have HV : Hid (mvW l = none) := hide (by rw [HW.out, if_neg (by simp [q1]), if_neg (by simp [q2])])
          clear q1 q2
          have HR := hide ((((((r_3).alloc (.cells #[.int .i64 1, .int .i64 a, .int .i64 0] 46)).set_ 0 (.int .i64 1)).set_ 1 (.int .i64 a)).set_ 2 (.int .i64 0))).three
          go_wp2_with fail
          obtain ⟨ra_9, rb_9, rc_9⟩ := HR.out
          refine bodyPost_ret (v := .tuple #[.agg #[.int .i64 1, .int .i64 a, .int .i64 0], .bool false]) (by simp [results, Tryz.results47, go_sem, ra_9, rb_9, rc_9]) rfl ?_
          exact ⟨(1, a, 0), by rw [HV.out]; rfl, (fun m' h => by rw [HV.out] at h; cases h), (((((B_3).alloc (by first | omega | (simp; omega) | simp) (.cells #[.int .i64 1, .int .i64 a, .int .i64 0] 46)).setCell (p := ⟨(w.heap.size), 0, none⟩) (by first | omega | (simp; omega) | simp) (.int .i64 1)).setCell (p := ⟨(w.heap.size), 1, none⟩) (by first | omega | (simp; omega) | simp) (.int .i64 a)).setCell (p := ⟨(w.heap.size), 2, none⟩) (by first | omega | (simp; omega) | simp) (.int .i64 0))⟩
        ·
          have HV : Hid (mvW l = none) := hide (by rw [HW.out, if_neg (by simp [q1]), if_neg (by simp [q2])])
          clear q1 q2
          have HR := hide ((((((r_3).alloc (.cells #[.int .i64 1, .int .i64 a, .int .i64 0] 46)).set_ 0 (.int .i64 1)).set_ 1 (.int .i64 a)).set_ 2 (.int .i64 0))).three
          go_wp2_with fail
          obtain ⟨ra_9, rb_9, rc_9⟩ := HR.out
          refine bodyPost_ret (v := .tuple #[.agg #[.int .i64 1, .int .i64 a, .int .i64 0], .bool false]) (by simp [results, Tryz.results47, go_sem, ra_9, rb_9, rc_9]) rfl ?_
          exact ⟨(1, a, 0), by rw [HV.out]; rfl, (fun m' h => by rw [HV.out] at h; cases h), (((((B_3).alloc (by first | omega | (simp; omega) | simp) (.cells #[.int .i64 1, .int .i64 a, .int .i64 0] 46)).setCell (p := ⟨(w.heap.size), 0, none⟩) (by first | omega | (simp; omega) | simp) (.int .i64 1)).setCell (p := ⟨(w.heap.size), 1, none⟩) (by first | omega | (simp; omega) | simp) (.int .i64 a)).setCell (p := ⟨(w.heap.size), 2, none⟩) (by first | omega | (simp; omega) | simp) (.int .i64 0))⟩
  ·
    have HV := hide (mvW_not h2)
    have e2 : (((spl 58 l).length : Int) != 2) = true := by rw [bne_iff_ne]; omega
    clear h2
    obtain ⟨ra_9, rb_9, rc_9⟩ := ((r_1)).three
    have rf0_9 := ((r_1)).frozen 0
    have rf1_9 := ((r_1)).frozen 1
    have rf2_9 := ((r_1)).frozen 2
    have HR := hide (((((r_1).set_ 0 (.int .i64 0)).set_ 1 (.int .i64 0)).set_ 2 (.int .i64 0))).three
    go_wp2_with fail
    obtain ⟨ra_9, rb_9, rc_9⟩ := HR.out
    refine bodyPost_ret (v := .tuple #[.agg #[.int .i64 0, .int .i64 0, .int .i64 0], .bool false]) (by simp [results, Tryz.results47, go_sem, ra_9, rb_9, rc_9]) rfl ?_
    exact ⟨(0, 0, 0), by rw [HV.out]; rfl, (fun m' h => by rw [HV.out] at h; cases h), ((((B_1).setCell (p := ⟨(w.heap.size), 0, none⟩) (by first | omega | (simp; omega) | simp) (.int .i64 0)).setCell (p := ⟨(w.heap.size), 1, none⟩) (by first | omega | (simp; omega) | simp) (.int .i64 0)).setCell (p := ⟨(w.heap.size), 2, none⟩) (by first | omega | (simp; omega) | simp) (.int .i64 0))⟩
end Go.Proofs.YtocellbhpjiioaaGreat
