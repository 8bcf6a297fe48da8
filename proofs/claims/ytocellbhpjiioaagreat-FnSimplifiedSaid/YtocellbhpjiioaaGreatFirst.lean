/-
  Contracts: the first move that is possible, of the reference and of the program; IsReduced. Conditions: none beyond the lengths.
-/
import Derived.Test.YtocellbhpjiioaaGreatCan
namespace Go.Proofs.YtocellbhpjiioaaGreat
open Go.RowKit
set_option linter.unusedVariables false

def firstM (code : List (List Int)) : (Int × Int × Int) × Bool :=
  match loopsL code (sumLen code / 2) with
  | a :: _ => ((1, a, 0), true)
  | [] => match pairsL code (sumLen code / 2) (sumLen code / 2) with
    | (a :: b :: _) :: _ => ((2, a, b), true)
    | _ => ((0, 0, 0), false)
theorem firstM_loop {code : List (List Int)} {a : Int} {t : List Int} (h : loopsL code (sumLen code / 2) = a :: t) : firstM code = ((1, a, 0), true) := by unfold firstM; rw [h]
theorem firstM_pair {code : List (List Int)} {a b : Int} {t : List (List Int)} (h : loopsL code (sumLen code / 2) = []) (h2 : pairsL code (sumLen code / 2) (sumLen code / 2) = [a, b] :: t) : firstM code = ((2, a, b), true) := by unfold firstM; rw [h, h2]
theorem firstM_none {code : List (List Int)} (h : loopsL code (sumLen code / 2) = []) (h2 : pairsL code (sumLen code / 2) (sumLen code / 2) = []) : firstM code = ((0, 0, 0), false) := by unfold firstM; rw [h, h2]
theorem pairsA_mem {code : List (List Int)} {a m : Nat} {r : List Int} (h : r ∈ pairsA code a m) : ∃ b : Nat, b < m ∧ a < b ∧ pairK code a b = true ∧ r = [(a : Int), (b : Int)] := by
  unfold pairsA at h
  obtain ⟨b, hb, rfl⟩ := List.mem_map.1 h
  obtain ⟨h1, h2⟩ := List.mem_filter.1 hb
  rw [Bool.and_eq_true] at h2
  exact ⟨b, List.mem_range.1 h1, of_decide_eq_true h2.1, h2.2, rfl⟩
theorem pairsL_mem {code : List (List Int)} {N m : Nat} {r : List Int} (h : r ∈ pairsL code N m) : ∃ a b : Nat, a < m ∧ b < N ∧ a < b ∧ pairK code a b = true ∧ r = [(a : Int), (b : Int)] := by
  unfold pairsL at h
  obtain ⟨l, hl, hr⟩ := List.mem_flatten.1 h
  obtain ⟨a, ha, rfl⟩ := List.mem_map.1 hl
  obtain ⟨b, h1, h2, h3, h4⟩ := pairsA_mem hr
  exact ⟨a, b, List.mem_range.1 ha, h1, h2, h3, h4⟩
theorem loopsL_mem {code : List (List Int)} {m : Nat} {x : Int} (h : x ∈ loopsL code m) : ∃ a : Nat, a < m ∧ loopK code a = true ∧ x = (a : Int) := by
  unfold loopsL at h
  obtain ⟨a, ha, rfl⟩ := List.mem_map.1 h
  obtain ⟨h1, h2⟩ := List.mem_filter.1 ha
  exact ⟨a, List.mem_range.1 h1, h2, rfl⟩
theorem pairs_cases (code : List (List Int)) (N m : Nat) : pairsL code N m = [] ∨ ∃ (a b : Nat) (t : List (List Int)), pairsL code N m = [(a : Int), (b : Int)] :: t := by
  cases h : pairsL code N m with
  | nil => exact .inl rfl
  | cons r t =>
    obtain ⟨a, b, _, _, _, _, rfl⟩ := pairsL_mem (code := code) (N := N) (m := m) (r := r) (by rw [h]; exact List.mem_cons_self)
    exact .inr ⟨a, b, t, rfl⟩

set_option maxRecDepth 100000 in
set_option maxHeartbeats 4000000 in
theorem implFirst_any (A : Option Addr) (c T : Nat) (code : List (List Int)) (w : World) (hc : RC w T A code) (hv : validC code = true) :
    Calls Tryz.prog 26 #[.slice A code.length c] w (RetV w (.tuple #[.agg #[.int .i64 (firstM code).1.1, .int .i64 (firstM code).1.2.1, .int .i64 (firstM code).1.2.2], .bool (firstM code).2])) := by
  have q0 : Bx (w.alloc (.cells #[.int .i64 0, .int .i64 0, .int .i64 0] 46)) w.heap.size 46 #[.int .i64 0, .int .i64 0, .int .i64 0] := Bx.new _ _ _
  have hc0 := hc.alloc (.cells #[.int .i64 0, .int .i64 0, .int .i64 0] 46)
  have hB0 : Below w.heap.size w (w.alloc (.cells #[.int .i64 0, .int .i64 0, .int .i64 0] 46)) := (Below.refl _ _).alloc (Nat.le_refl _) _
  obtain ⟨hs1, hs2, hs3⟩ := valid_sum hv
  have hn : code.length + sumLen code ≤ 1048576 := by omega
  have hlen := loopsL_len code (sumLen code / 2)
  obtain ⟨zs, hzs⟩ : ∃ zs, zs = loopsL code (sumLen code / 2) := ⟨_, rfl⟩
  rw [← hzs] at hlen
  have HZ := hide hzs
  by_cases hz0 : 0 < zs.length
  · have hx0 : zs[0]? = some zs[0] := List.getElem?_eq_getElem hz0
    obtain ⟨x, hx⟩ : ∃ x, x = zs[0] := ⟨_, rfl⟩
    rw [← hx] at hx0
    have HV : Hid (firstM code = ((1, x, 0), true)) := hide (by
      cases hq : zs with
      | nil => rw [hq] at hz0; simp at hz0
      | cons y t =>
        have e : y = x := by rw [hq] at hx0; simpa using hx0
        rw [← e]
        exact firstM_loop (by rw [← hzs, hq]))
    have hzI : (0 : Int) < (zs.length : Int) := by omega
    have HX := hide hx0
    clear hx hx0
    go_enter Tryz.func26, Tryz.ntmps26
    go_wp2_with fail
    refine (implLoops_any _ _ T code _ hc0 hv).mono ?_
    rw [← hzs]
    rintro e w1 ⟨A1, c1, rfl, own, hb1⟩
    have q1 := q0.below hb1
    have hB1 := hB0.trans (hb1.mono hB0.size)
    obtain ⟨b1, off1, y, rfl, hb, hy, hcell⟩ := own.rd.at_ (k := 0) hz0
    obtain rfl : y = x := by have := HX.out; rw [hy] at this; injection this
    rw [Nat.add_zero] at hcell
    clear hy hzs
    have p1 := q1.set_ 0 (.int .i64 1)
    have p2 := p1.set_ 1 (.int .i64 y)
    have p3 := p2.set_ 2 (.int .i64 0)
    obtain ⟨a0, a1, a2⟩ := q1.three
    have f0 := q1.frozen 0
    have f1 := p1.frozen 1
    have f2 := p2.frozen 2
    have hBS := ((hB1.setCell (p := ⟨w.heap.size, 0, none⟩) (Nat.le_refl _) (.int .i64 1)).setCell (p := ⟨w.heap.size, 1, none⟩) (Nat.le_refl _) (.int .i64 y)).setCell (p := ⟨w.heap.size, 2, none⟩) (Nat.le_refl _) (.int .i64 0)
    have hr3 := p3.three
    obtain ⟨g0, g1, g2⟩ := hr3
    go_wp2_with fail
    refine bodyPost_ret (v := .tuple #[.agg #[.int .i64 1, .int .i64 y, .int .i64 0], .bool true]) (by simp [results, Tryz.results26, go_sem, g0, g1, g2]) rfl ?_
    rw [HV.out]
    exact ⟨rfl, hBS⟩
  · have hzI : ¬ (0 : Int) < (zs.length : Int) := by omega
    have hnil : loopsL code (sumLen code / 2) = [] := by rw [← hzs]; exact List.eq_nil_of_length_eq_zero (by omega)
    have HNIL := hide hnil
    have HNZ : Hid (zs = []) := hide (List.eq_nil_of_length_eq_zero (by omega))
    have hplen := pairsL_len code (sumLen code / 2) (sumLen code / 2)
    have hpl := mulself_le hs3
    obtain ⟨ps, hps⟩ : ∃ ps, ps = pairsL code (sumLen code / 2) (sumLen code / 2) := ⟨_, rfl⟩
    have hpl2 : ps.length ≤ 14400 := by rw [hps]; omega
    clear hplen hpl hnil
    by_cases hp0 : 0 < ps.length
    · obtain ⟨x, y, HV, HX⟩ : ∃ x y : Int, Hid (firstM code = ((2, x, y), true)) ∧ Hid (ps[0]? = some [x, y]) := by
        rcases pairs_cases code (sumLen code / 2) (sumLen code / 2) with h | ⟨a, b, t, h⟩
        · rw [hps, h] at hp0
          simp at hp0
        · exact ⟨_, _, hide (firstM_pair HNIL.out h), hide (by rw [hps, h]; rfl)⟩
      have hpI : (0 : Int) < (ps.length : Int) := by omega
      go_enter Tryz.func26, Tryz.ntmps26
      go_wp2_with fail
      refine (implLoops_any _ _ T code _ hc0 hv).mono ?_
      rw [← hzs]
      rw [HNZ.out]
      rintro e w1 ⟨A1, c1, rfl, own, hb1⟩
      have q1 := q0.below hb1
      have hB1 := hB0.trans (hb1.mono hB0.size)
      have hc1 := hc.below hB1
      go_wp2_with fail
      refine (implPairs_any _ _ T code _ hc1 hv).mono ?_
      rw [← hps]
      rintro e w2 ⟨A2, c2, rfl, own2, hb2⟩
      have q2 := q1.below hb2
      have hB2 := hB1.trans (hb2.mono hB1.size)
      obtain ⟨b1, off1, B, d, r, rfl, hb, hx, hce, hd1, hd2, hR⟩ := own2.rd.row (k := 0) hp0
      obtain rfl : r = [x, y] := by have := HX.out; rw [hx] at this; injection this
      rw [Nat.add_zero] at hce
      obtain ⟨b2, off2, x', rfl, hb2', hx1, hcx⟩ := hR.at_ (k := 0) (by simp)
      obtain ⟨b3, off3, y', hA3, hb3', hy1, hcy⟩ := hR.at_ (k := 1) (by simp)
      injection hA3 with hA3
      injection hA3 with e1 e2
      subst e1 e2
      obtain rfl : x' = x := by simpa using hx1.symm
      obtain rfl : y' = y := by simpa using hy1.symm
      rw [Nat.add_zero] at hcx
      clear hx hx1 hy1 hzs hps hd1 hd2
      have p1 := q2.set_ 0 (.int .i64 2)
      have p2 := p1.set_ 1 (.int .i64 x')
      have p3 := p2.set_ 2 (.int .i64 y')
      obtain ⟨a0, a1, a2⟩ := q2.three
      have f0 := q2.frozen 0
      have f1 := p1.frozen 1
      have f2 := p2.frozen 2
      have hBS := ((hB2.setCell (p := ⟨w.heap.size, 0, none⟩) (Nat.le_refl _) (.int .i64 2)).setCell (p := ⟨w.heap.size, 1, none⟩) (Nat.le_refl _) (.int .i64 x')).setCell (p := ⟨w.heap.size, 2, none⟩) (Nat.le_refl _) (.int .i64 y')
      have hr3 := p3.three
      obtain ⟨g0, g1, g2⟩ := hr3
      go_wp2_with fail
      go_region
      go_wp2_with fail
      refine bodyPost_ret (v := .tuple #[.agg #[.int .i64 2, .int .i64 x', .int .i64 y'], .bool true]) (by simp [results, Tryz.results26, go_sem, g0, g1, g2]) rfl ?_
      rw [HV.out]
      exact ⟨rfl, hBS.drew⟩
    · have HV : Hid (firstM code = ((0, 0, 0), false)) := hide (firstM_none HNIL.out (by rw [← hps]; exact List.eq_nil_of_length_eq_zero (by omega)))
      have HNP : Hid (ps = []) := hide (List.eq_nil_of_length_eq_zero (by omega))
      have hpI : ¬ (0 : Int) < (ps.length : Int) := by omega
      go_enter Tryz.func26, Tryz.ntmps26
      go_wp2_with fail
      refine (implLoops_any _ _ T code _ hc0 hv).mono ?_
      rw [← hzs]
      rw [HNZ.out]
      rintro e w1 ⟨A1, c1, rfl, own, hb1⟩
      have q1 := q0.below hb1
      have hB1 := hB0.trans (hb1.mono hB0.size)
      have hc1 := hc.below hB1
      go_wp2_with fail
      refine (implPairs_any _ _ T code _ hc1 hv).mono ?_
      rw [← hps]
      rw [HNP.out]
      rintro e w2 ⟨A2, c2, rfl, own2, hb2⟩
      have q2 := q1.below hb2
      have hB2 := hB1.trans (hb2.mono hB1.size)
      clear hzs hps
      have p1 := q2.set_ 0 (.int .i64 0)
      have p2 := p1.set_ 1 (.int .i64 0)
      have p3 := p2.set_ 2 (.int .i64 0)
      obtain ⟨a0, a1, a2⟩ := q2.three
      have f0 := q2.frozen 0
      have f1 := p1.frozen 1
      have f2 := p2.frozen 2
      have hBS := ((hB2.setCell (p := ⟨w.heap.size, 0, none⟩) (Nat.le_refl _) (.int .i64 0)).setCell (p := ⟨w.heap.size, 1, none⟩) (Nat.le_refl _) (.int .i64 0)).setCell (p := ⟨w.heap.size, 2, none⟩) (Nat.le_refl _) (.int .i64 0)
      have hr3 := p3.three
      obtain ⟨g0, g1, g2⟩ := hr3
      go_wp2_with fail
      refine bodyPost_ret (v := .tuple #[.agg #[.int .i64 0, .int .i64 0, .int .i64 0], .bool false]) (by simp [results, Tryz.results26, go_sem, g0, g1, g2]) rfl ?_
      rw [HV.out]
      exact ⟨rfl, hBS⟩
set_option maxRecDepth 100000 in
set_option maxHeartbeats 4000000 in
theorem specFirst_any (A : Option Addr) (c T : Nat) (code : List (List Int)) (w : World) (hc : RC w T A code) (hv : validC code = true) :
    Calls Tryz.prog 30 #[.slice A code.length c] w (RetV w (.tuple #[.agg #[.int .i64 (firstM code).1.1, .int .i64 (firstM code).1.2.1, .int .i64 (firstM code).1.2.2], .bool (firstM code).2])) := by
  have q0 : Bx (w.alloc (.cells #[.int .i64 0, .int .i64 0, .int .i64 0] 46)) w.heap.size 46 #[.int .i64 0, .int .i64 0, .int .i64 0] := Bx.new _ _ _
  have hc0 := hc.alloc (.cells #[.int .i64 0, .int .i64 0, .int .i64 0] 46)
  have hB0 : Below w.heap.size w (w.alloc (.cells #[.int .i64 0, .int .i64 0, .int .i64 0] 46)) := (Below.refl _ _).alloc (Nat.le_refl _) _
  obtain ⟨hs1, hs2, hs3⟩ := valid_sum hv
  have hn : code.length + sumLen code ≤ 1048576 := by omega
  have hlen := loopsL_len code (sumLen code / 2)
  obtain ⟨zs, hzs⟩ : ∃ zs, zs = loopsL code (sumLen code / 2) := ⟨_, rfl⟩
  rw [← hzs] at hlen
  have HZ := hide hzs
  have HR : Hid ((loopsR code).1 = loopsL code (sumLen code / 2) ∧ (loopsR code).2 = 0) := hide (by unfold loopsR; rw [if_pos hv]; exact ⟨rfl, rfl⟩)
  have HS : Hid ((pairsR code).1 = pairsL code (sumLen code / 2) (sumLen code / 2) ∧ (pairsR code).2 = 0) := hide (by unfold pairsR; rw [if_pos hv]; exact ⟨rfl, rfl⟩)
  by_cases hz0 : 0 < zs.length
  · have hx0 : zs[0]? = some zs[0] := List.getElem?_eq_getElem hz0
    obtain ⟨x, hx⟩ : ∃ x, x = zs[0] := ⟨_, rfl⟩
    rw [← hx] at hx0
    have HV : Hid (firstM code = ((1, x, 0), true)) := hide (by
      cases hq : zs with
      | nil => rw [hq] at hz0; simp at hz0
      | cons y t =>
        have e : y = x := by rw [hq] at hx0; simpa using hx0
        rw [← e]
        exact firstM_loop (by rw [← hzs, hq]))
    have hzI : (0 : Int) < (zs.length : Int) := by omega
    have HX := hide hx0
    clear hx hx0
    go_enter Tryz.func30, Tryz.ntmps30
    go_wp2_with fail
    refine (specLoopMoves_any _ _ T code _ hc0 hn).mono ?_
    rw [HR.out.1, HR.out.2, ← hzs]
    rintro e w1 ⟨A1, c1, rfl, own, hb1⟩
    have q1 := q0.below hb1
    have hB1 := hB0.trans (hb1.mono hB0.size)
    obtain ⟨b1, off1, y, rfl, hb, hy, hcell⟩ := own.rd.at_ (k := 0) hz0
    obtain rfl : y = x := by have := HX.out; rw [hy] at this; injection this
    rw [Nat.add_zero] at hcell
    clear hy hzs
    have p1 := q1.set_ 0 (.int .i64 1)
    have p2 := p1.set_ 1 (.int .i64 y)
    have p3 := p2.set_ 2 (.int .i64 0)
    obtain ⟨a0, a1, a2⟩ := q1.three
    have f0 := q1.frozen 0
    have f1 := p1.frozen 1
    have f2 := p2.frozen 2
    have hBS := ((hB1.setCell (p := ⟨w.heap.size, 0, none⟩) (Nat.le_refl _) (.int .i64 1)).setCell (p := ⟨w.heap.size, 1, none⟩) (Nat.le_refl _) (.int .i64 y)).setCell (p := ⟨w.heap.size, 2, none⟩) (Nat.le_refl _) (.int .i64 0)
    have hr3 := p3.three
    obtain ⟨g0, g1, g2⟩ := hr3
    go_wp2_with fail
    refine bodyPost_ret (v := .tuple #[.agg #[.int .i64 1, .int .i64 y, .int .i64 0], .bool true]) (by simp [results, Tryz.results30, go_sem, g0, g1, g2]) rfl ?_
    rw [HV.out]
    exact ⟨rfl, hBS⟩
  · have hzI : ¬ (0 : Int) < (zs.length : Int) := by omega
    have hnil : loopsL code (sumLen code / 2) = [] := by rw [← hzs]; exact List.eq_nil_of_length_eq_zero (by omega)
    have HNIL := hide hnil
    have HNZ : Hid (zs = []) := hide (List.eq_nil_of_length_eq_zero (by omega))
    have hplen := pairsL_len code (sumLen code / 2) (sumLen code / 2)
    have hpl := mulself_le hs3
    obtain ⟨ps, hps⟩ : ∃ ps, ps = pairsL code (sumLen code / 2) (sumLen code / 2) := ⟨_, rfl⟩
    have hpl2 : ps.length ≤ 14400 := by rw [hps]; omega
    clear hplen hpl hnil
    by_cases hp0 : 0 < ps.length
    · obtain ⟨x, y, HV, HX⟩ : ∃ x y : Int, Hid (firstM code = ((2, x, y), true)) ∧ Hid (ps[0]? = some [x, y]) := by
        rcases pairs_cases code (sumLen code / 2) (sumLen code / 2) with h | ⟨a, b, t, h⟩
        · rw [hps, h] at hp0
          simp at hp0
        · exact ⟨_, _, hide (firstM_pair HNIL.out h), hide (by rw [hps, h]; rfl)⟩
      have hpI : (0 : Int) < (ps.length : Int) := by omega
      go_enter Tryz.func30, Tryz.ntmps30
      go_wp2_with fail
      refine (specLoopMoves_any _ _ T code _ hc0 hn).mono ?_
      rw [HR.out.1, HR.out.2, ← hzs]
      rw [HNZ.out]
      rintro e w1 ⟨A1, c1, rfl, own, hb1⟩
      have q1 := q0.below hb1
      have hB1 := hB0.trans (hb1.mono hB0.size)
      have hc1 := hc.below hB1
      go_wp2_with fail
      refine (specPairMoves_any _ _ T code _ hc1 hn).mono ?_
      rw [HS.out.1, HS.out.2, ← hps]
      rintro e w2 ⟨A2, c2, rfl, own2, hb2⟩
      have q2 := q1.below hb2
      have hB2 := hB1.trans (hb2.mono hB1.size)
      obtain ⟨b1, off1, B, d, r, rfl, hb, hx, hce, hd1, hd2, hR⟩ := own2.rd.row (k := 0) hp0
      obtain rfl : r = [x, y] := by have := HX.out; rw [hx] at this; injection this
      rw [Nat.add_zero] at hce
      obtain ⟨b2, off2, x', rfl, hb2', hx1, hcx⟩ := hR.at_ (k := 0) (by simp)
      obtain ⟨b3, off3, y', hA3, hb3', hy1, hcy⟩ := hR.at_ (k := 1) (by simp)
      injection hA3 with hA3
      injection hA3 with e1 e2
      subst e1 e2
      obtain rfl : x' = x := by simpa using hx1.symm
      obtain rfl : y' = y := by simpa using hy1.symm
      rw [Nat.add_zero] at hcx
      clear hx hx1 hy1 hzs hps hd1 hd2
      have p1 := q2.set_ 0 (.int .i64 2)
      have p2 := p1.set_ 1 (.int .i64 x')
      have p3 := p2.set_ 2 (.int .i64 y')
      obtain ⟨a0, a1, a2⟩ := q2.three
      have f0 := q2.frozen 0
      have f1 := p1.frozen 1
      have f2 := p2.frozen 2
      have hBS := ((hB2.setCell (p := ⟨w.heap.size, 0, none⟩) (Nat.le_refl _) (.int .i64 2)).setCell (p := ⟨w.heap.size, 1, none⟩) (Nat.le_refl _) (.int .i64 x')).setCell (p := ⟨w.heap.size, 2, none⟩) (Nat.le_refl _) (.int .i64 y')
      have hr3 := p3.three
      obtain ⟨g0, g1, g2⟩ := hr3
      go_wp2_with fail
      go_region
      go_wp2_with fail
      refine bodyPost_ret (v := .tuple #[.agg #[.int .i64 2, .int .i64 x', .int .i64 y'], .bool true]) (by simp [results, Tryz.results30, go_sem, g0, g1, g2]) rfl ?_
      rw [HV.out]
      exact ⟨rfl, hBS.drew⟩
    · have HV : Hid (firstM code = ((0, 0, 0), false)) := hide (firstM_none HNIL.out (by rw [← hps]; exact List.eq_nil_of_length_eq_zero (by omega)))
      have HNP : Hid (ps = []) := hide (List.eq_nil_of_length_eq_zero (by omega))
      have hpI : ¬ (0 : Int) < (ps.length : Int) := by omega
      go_enter Tryz.func30, Tryz.ntmps30
      go_wp2_with fail
      refine (specLoopMoves_any _ _ T code _ hc0 hn).mono ?_
      rw [HR.out.1, HR.out.2, ← hzs]
      rw [HNZ.out]
      rintro e w1 ⟨A1, c1, rfl, own, hb1⟩
      have q1 := q0.below hb1
      have hB1 := hB0.trans (hb1.mono hB0.size)
      have hc1 := hc.below hB1
      go_wp2_with fail
      refine (specPairMoves_any _ _ T code _ hc1 hn).mono ?_
      rw [HS.out.1, HS.out.2, ← hps]
      rw [HNP.out]
      rintro e w2 ⟨A2, c2, rfl, own2, hb2⟩
      have q2 := q1.below hb2
      have hB2 := hB1.trans (hb2.mono hB1.size)
      clear hzs hps
      have p1 := q2.set_ 0 (.int .i64 0)
      have p2 := p1.set_ 1 (.int .i64 0)
      have p3 := p2.set_ 2 (.int .i64 0)
      obtain ⟨a0, a1, a2⟩ := q2.three
      have f0 := q2.frozen 0
      have f1 := p1.frozen 1
      have f2 := p2.frozen 2
      have hBS := ((hB2.setCell (p := ⟨w.heap.size, 0, none⟩) (Nat.le_refl _) (.int .i64 0)).setCell (p := ⟨w.heap.size, 1, none⟩) (Nat.le_refl _) (.int .i64 0)).setCell (p := ⟨w.heap.size, 2, none⟩) (Nat.le_refl _) (.int .i64 0)
      have hr3 := p3.three
      obtain ⟨g0, g1, g2⟩ := hr3
      go_wp2_with fail
      refine bodyPost_ret (v := .tuple #[.agg #[.int .i64 0, .int .i64 0, .int .i64 0], .bool false]) (by simp [results, Tryz.results30, go_sem, g0, g1, g2]) rfl ?_
      rw [HV.out]
      exact ⟨rfl, hBS⟩

theorem implReduced_any (A : Option Addr) (c T : Nat) (code : List (List Int)) (w : World) (hc : RC w T A code) (hn : code.length + sumLen code ≤ 1048576) :
    Calls Tryz.prog 19 #[.slice A code.length c] w (RetV w (.bool (validC code && !(firstM code).2))) := by
  cases hv : validC code
  · go_enter Tryz.func19, Tryz.ntmps19
    go_wp2_with fail
    refine (validCode_any _ _ T code _ hc hn).mono ?_
    rw [hv]
    rintro e w1 ⟨rfl, hb1⟩
    go_wp2_with fail
    go_ret
    exact ⟨rfl, hb1⟩
  · have hv2 := hide hv
    obtain ⟨m, ok, hf⟩ : ∃ m ok, firstM code = (m, ok) := ⟨_, _, rfl⟩
    obtain ⟨x, y, z⟩ := m
    have HF := hide hf
    go_enter Tryz.func19, Tryz.ntmps19
    go_wp2_with fail
    refine (validCode_any _ _ T code _ hc hn).mono ?_
    rw [hv]
    rintro e w1 ⟨rfl, hb1⟩
    clear hv
    go_wp2_with fail
    refine (implFirst_any _ _ T code _ (hc.below hb1) hv2.out).mono ?_
    rw [hf]
    rintro e w2 ⟨rfl, hb2⟩
    have hB := hb1.trans (hb2.mono hb1.size)
    clear hf
    go_wp2_with fail
    go_ret
    rw [HF.out]
    exact ⟨rfl, hB.alloc hB.size _⟩
theorem specReduced_any (A : Option Addr) (c T : Nat) (code : List (List Int)) (w : World) (hc : RC w T A code) (hn : code.length + sumLen code ≤ 1048576) :
    Calls Tryz.prog 20 #[.slice A code.length c] w (RetV w (.bool (validC code && !(firstM code).2))) := by
  cases hv : validC code
  · go_enter Tryz.func20, Tryz.ntmps20
    go_wp2_with fail
    refine (l14Ok_any _ _ T code _ hc hn).mono ?_
    rw [hv]
    rintro e w1 ⟨rfl, hb1⟩
    go_wp2_with fail
    go_ret
    exact ⟨rfl, hb1⟩
  · have hv2 := hide hv
    obtain ⟨m, ok, hf⟩ : ∃ m ok, firstM code = (m, ok) := ⟨_, _, rfl⟩
    obtain ⟨x, y, z⟩ := m
    have HF := hide hf
    go_enter Tryz.func20, Tryz.ntmps20
    go_wp2_with fail
    refine (l14Ok_any _ _ T code _ hc hn).mono ?_
    rw [hv]
    rintro e w1 ⟨rfl, hb1⟩
    clear hv
    go_wp2_with fail
    refine (specFirst_any _ _ T code _ (hc.below hb1) hv2.out).mono ?_
    rw [hf]
    rintro e w2 ⟨rfl, hb2⟩
    have hB := hb1.trans (hb2.mono hb1.size)
    clear hf
    go_wp2_with fail
    go_ret
    rw [HF.out]
    exact ⟨rfl, hB.alloc hB.size _⟩
end Go.Proofs.YtocellbhpjiioaaGreat
