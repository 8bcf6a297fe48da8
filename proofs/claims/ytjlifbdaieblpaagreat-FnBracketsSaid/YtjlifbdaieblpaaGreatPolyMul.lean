/-
  Contracts: the product of two polynomials, as the reference makes it; the tests whether all coefficients are small. Conditions: the numbers are far below the machine's.
-/
import Derived.Test.YtjlifbdaieblpaaGreatPolyAddI
import Derived.BigRegion
namespace Go.Proofs.YtjlifbdaieblpaaGreat
open Go.RowKit
set_option linter.unusedVariables false

def smallB (x : Int) : Bool := inB x (-1000000) 1000000
def smallP (xs : List Int) : Bool := xs.all smallB

theorem rowW_at {x : Int} {ys : List Int} {k : Nat} {y : Int} (h : ys[k]? = some y) : (rowW x ys)[k]? = some (wrap64 (x * y)) := by simp [rowW, h]
theorem rowW_length (x : Int) (ys : List Int) : (rowW x ys).length = ys.length := by simp [rowW]
theorem mulTo_next (n : Nat) (xs ys : List Int) (i : Nat) {x : Int} (h : xs[i]? = some x) : mulTo n xs ys (i + 1) = addAt (mulTo n xs ys i) i (rowW x ys) := by
  rw [mulTo, getD_of h]
theorem mulP_none {l0 l1 : Int} {xs0 xs1 : List Int} (h : xs0.length = 0 ∨ xs1.length = 0) : mulP l0 xs0 l1 xs1 = (0, []) := by unfold mulP; rw [if_pos h]
theorem mulP_some {l0 l1 : Int} {xs0 xs1 : List Int} (h0 : ¬ xs0.length = 0) (h1 : ¬ xs1.length = 0) : mulP l0 xs0 l1 xs1 = trimS (l0 + l1) (mulTo (xs0.length + xs1.length - 1) xs0 xs1 xs0.length) := by unfold mulP; rw [if_neg (by omega)]

set_option maxHeartbeats 4000000 in
theorem l18Mul_any (l0 : Int) (A0 : Option Addr) (c0 : Nat) (xs0 : List Int) (l1 : Int) (A1 : Option Addr) (c1 : Nat) (xs1 : List Int) (w : World) (h0 : RI w A0 xs0) (h1 : RI w A1 xs1)
    (a0 : -1000000 ≤ l0) (b0 : l0 ≤ 1000000) (a1 : -1000000 ≤ l1) (b1 : l1 ≤ 1000000) (n0 : xs0.length ≤ 1048576) (n1 : xs1.length ≤ 1048576) :
    Calls Tryz.prog 93 #[.agg #[.int .i64 l0, .slice A0 xs0.length c0], .agg #[.int .i64 l1, .slice A1 xs1.length c1]] w (RetP w (mulP l0 xs0 l1 xs1).1 (mulP l0 xs0 l1 xs1).2) := by
  by_cases z0 : xs0.length = 0
  · have HF := hide (mulP_none (l0 := l0) (l1 := l1) (xs0 := xs0) (xs1 := xs1) (.inl z0))
    have e0 : ((xs0.length : Int) == 0) = true := by rw [beq_iff_eq]; omega
    clear z0
    go_enter Tryz.func93, Tryz.ntmps93
    go_wp2_with fail
    refine bodyPost_ret (v := .agg #[.int .i64 0, .slice (some ⟨w.heap.size + 1 + 1 + 1, 0, none⟩) 0 0]) (by simp [results, Tryz.results93, go_sem]) rfl ?_
    rw [HF.out]
    exact ⟨_, 0, rfl, OwnI.empty_ _ _ (by simp) (by simp; omega), ((((Below.refl _ _).alloc (Nat.le_refl _) _).alloc (by simp) _).alloc (by simp; omega) _).alloc (by simp; omega) _⟩
  · have e0 : ((xs0.length : Int) == 0) = false := by rw [beq_eq_false_iff_ne]; omega
    by_cases z1 : xs1.length = 0
    · have HF := hide (mulP_none (l0 := l0) (l1 := l1) (xs0 := xs0) (xs1 := xs1) (.inr z1))
      have e1 : ((xs1.length : Int) == 0) = true := by rw [beq_iff_eq]; omega
      clear z0 z1
      go_enter Tryz.func93, Tryz.ntmps93
      go_wp2_with fail
      refine bodyPost_ret (v := .agg #[.int .i64 0, .slice (some ⟨w.heap.size + 1 + 1 + 1, 0, none⟩) 0 0]) (by simp [results, Tryz.results93, go_sem]) rfl ?_
      rw [HF.out]
      exact ⟨_, 0, rfl, OwnI.empty_ _ _ (by simp) (by simp; omega), ((((Below.refl _ _).alloc (Nat.le_refl _) _).alloc (by simp) _).alloc (by simp; omega) _).alloc (by simp; omega) _⟩
    · have e1 : ((xs1.length : Int) == 0) = false := by rw [beq_eq_false_iff_ne]; omega
      obtain ⟨N, hN⟩ : ∃ N : Nat, N = xs0.length + xs1.length - 1 := ⟨_, rfl⟩
      have HF := hide (mulP_some (l0 := l0) (l1 := l1) z0 z1)
      rw [← hN] at HF
      have hN2 : (xs0.length : Int) + (xs1.length : Int) - 1 = (N : Int) := by omega
      have gN : N ≤ 8388608 := by omega
      have hNa : xs0.length + xs1.length ≤ N + 1 := by omega
      have hNb : N + 1 ≤ xs0.length + xs1.length := by omega
      clear hN
      have hmk := fun W : World => run_make_i64 N (by omega) W
      go_enter Tryz.func93, Tryz.ntmps93
      go_wp2_with fail
      go_loopw [6] (fun i wr => ∃ (k : Nat), k ≤ xs0.length ∧ i = .int .i64 k ∧ OwnI wr w.heap.size (some ⟨w.heap.size + 1 + 1 + 1, 0, none⟩) N (mulTo N xs0 xs1 k) ∧ Bx wr (w.heap.size) 29 #[.int .i64 l0, .slice A0 xs0.length c0] ∧ Bx wr (w.heap.size + 1) 29 #[.int .i64 l1, .slice A1 xs1.length c1] ∧ Bx wr (w.heap.size + 1 + 1) 29 #[.int .i64 0, .slice none 0 0] ∧ Below w.heap.size w wr) (fun i _ => xs0.length - (intOf i).toNat)
      case atStart => exact ⟨0, Nat.zero_le _, rfl, (OwnI.made _ _ (by simp) (by simp; omega) (by omega) : OwnI ((((w.alloc (.cells #[.int .i64 l0, .slice A0 xs0.length c0] 29)).alloc (.cells #[.int .i64 l1, .slice A1 xs1.length c1] 29)).alloc (.cells #[.int .i64 0, .slice none 0 0] 29)).alloc (.cells (madeCells #[.int .i64 0] N) 2)) w.heap.size (some ⟨w.heap.size + 1 + 1 + 1, 0, none⟩) N (List.replicate N 0)), (((Bx.new_ w (w.heap.size) 29 #[.int .i64 l0, .slice A0 xs0.length c0] (by simp)).alloc (.cells #[.int .i64 l1, .slice A1 xs1.length c1] 29)).alloc (.cells #[.int .i64 0, .slice none 0 0] 29)).alloc (.cells (madeCells #[.int .i64 0] N) 2), ((Bx.new_ (w.alloc (.cells #[.int .i64 l0, .slice A0 xs0.length c0] 29)) (w.heap.size + 1) 29 #[.int .i64 l1, .slice A1 xs1.length c1] (by simp)).alloc (.cells #[.int .i64 0, .slice none 0 0] 29)).alloc (.cells (madeCells #[.int .i64 0] N) 2), (Bx.new_ ((w.alloc (.cells #[.int .i64 l0, .slice A0 xs0.length c0] 29)).alloc (.cells #[.int .i64 l1, .slice A1 xs1.length c1] 29)) (w.heap.size + 1 + 1) 29 #[.int .i64 0, .slice none 0 0] (by simp)).alloc (.cells (madeCells #[.int .i64 0] N) 2), ((((Below.refl w.heap.size w).alloc (by first | omega | (simp; omega) | simp) (.cells #[.int .i64 l0, .slice A0 xs0.length c0] 29)).alloc (by first | omega | (simp; omega) | simp) (.cells #[.int .i64 l1, .slice A1 xs1.length c1] 29)).alloc (by first | omega | (simp; omega) | simp) (.cells #[.int .i64 0, .slice none 0 0] 29)).alloc (by first | omega | (simp; omega) | simp) (.cells (madeCells #[.int .i64 0] N) 2)⟩
      case round =>
        obtain ⟨i, hi, rfl, own, p0, p1, p2, hB⟩ := hrel
        obtain ⟨wo, rfl⟩ : ∃ wo : World, wo = wr := ⟨_, rfl⟩
        obtain ⟨p0a_x1, p0b_x1⟩ := (p0).two
        obtain ⟨p1a_x1, p1b_x1⟩ := (p1).two
        obtain ⟨p2a_x1, p2b_x1⟩ := (p2).two
        have p2f0_x1 := (p2).frozen 0
        have p2f1_x1 := (p2).frozen 1
        have z := hB.size
        have r0 := h0.below hB
        by_cases hlt : i < xs0.length
        · obtain ⟨b, off, x, rfl, hb, hx, hc⟩ := r0.at_ hlt
          have HN := hide (mulTo_next N xs0 xs1 i hx)
          obtain ⟨M, hM⟩ : ∃ M, M = mulTo N xs0 xs1 i := ⟨_, rfl⟩
          have hMl : M.length = N := by rw [hM, mulTo_length]
          rw [← hM] at own HN
          have hcw : w.cell? ⟨b, off + i, none⟩ = some (.int .i64 x) := by
            rw [← hB.cell (p := ⟨b, off + i, none⟩) (h0.lt (by omega) rfl)]
            exact hc
          clear hM hx
          go_wp2_with fail
          go_loopw [7] (fun j w2 => ∃ (k : Nat), k ≤ xs1.length ∧ j = .int .i64 k ∧ OwnI w2 w.heap.size (some ⟨w.heap.size + 1 + 1 + 1, 0, none⟩) N (addAt M i ((rowW x xs1).take k)) ∧ Bx w2 (w.heap.size) 29 #[.int .i64 l0, .slice (some ⟨b, off, none⟩) xs0.length c0] ∧ Bx w2 (w.heap.size + 1) 29 #[.int .i64 l1, .slice A1 xs1.length c1] ∧ Bx w2 (w.heap.size + 1 + 1) 29 #[.int .i64 0, .slice none 0 0] ∧ Below w.heap.size w w2) (fun i _ => xs1.length - (intOf i).toNat)
          case atStart => exact ⟨0, Nat.zero_le _, rfl, by simpa [addAt_nil] using own, p0, p1, p2, hB⟩
          case round =>
            clear own p0 p1 p2 hB r0
            obtain ⟨k, hk, rfl, own, p0, p1, p2, hB⟩ := hrel
            obtain ⟨p0a_x2, p0b_x2⟩ := (p0).two
            obtain ⟨p1a_x2, p1b_x2⟩ := (p1).two
            obtain ⟨p2a_x2, p2b_x2⟩ := (p2).two
            have p2f0_x2 := (p2).frozen 0
            have p2f1_x2 := (p2).frozen 1
            have z := hB.size
            have r0 := h0.below hB
            have r1 := h1.below hB
            by_cases hlt2 : k < xs1.length
            · obtain ⟨b2, off2, y, rfl, hb2, hy, hc2⟩ := r1.at_ hlt2
              have hbw : b < w.heap.size := h0.lt (by omega) rfl
              have hcx := (hB.cell (p := ⟨b, off + i, none⟩) hbw).trans hcw
              have hbw2 : b2 < w.heap.size := h1.lt (by omega) rfl
              have hol : ∀ l : List Int, (addAt M i l).length = N := fun l => by rw [addAt_length, hMl]
              obtain ⟨g, u, hg, hgb, hgs, hu, hgc, hgf, hst⟩ := own.at_ (k := i + k) (by rw [hol]; omega)
              injection hg with hg
              injection hg with hg
              subst hg
              have hs := hst (wrap64 (u + wrap64 (x * y)))
              rw [← addAt_next (rowW_at hy) hu] at hs
              have HS1 := hide hs.1
              have HS2 := hs.2
              have P0 := hide (p0.grownNe HS2 (by omega))
              have P1 := hide (p1.grownNe HS2 (by omega))
              have P2 := hide (p2.grownNe HS2 (by omega))
              have HB := hide (below_own hB HS2 (by omega) (by omega)).drew
              have e : ((i : Int) + (k : Int)).toNat = i + k := by omega
              clear hst hs hol hy hu HS2
              go_wp2_with fail
              go_region
              go_wp2
              go_roundw
              case rel => exact ⟨k + 1, by omega, by go_num, HS1.out, P0.out, P1.out, P2.out, HB.out⟩
              case measure => simp [intOf]; omega
            · have hke : k = xs1.length := by omega
              rw [hke, List.take_of_length_le (by rw [rowW_length]; exact Nat.le_refl _), ← HN.out] at own
              clear hke HN
              go_wp2_with fail
              go_roundw
              case rel => exact ⟨i + 1, by omega, by go_num, own, p0, p1, p2, hB⟩
              case measure => simp [intOf]; omega
        · rw [show i = xs0.length by omega] at own
          go_wp2_with fail
          obtain ⟨M, hM⟩ : ∃ M, mulTo N xs0 xs1 xs0.length = M := ⟨_, rfl⟩
          have HF2 := HF.out
          have hMl : M.length = N := by rw [← hM, mulTo_length]
          rw [hM] at own HF2
          have HF3 := hide HF2
          clear hM HF HF2
          have hcall := l18Trim_any (l0 + l1) (some ⟨w.heap.size + 1 + 1 + 1, 0, none⟩) N M _ own.rd (by omega) (by omega) (by omega) (by omega) (by omega)
          rw [hMl] at hcall
          have HC := hide hcall
          clear hcall
          refine (HC.out).mono ?_
          rintro e w3 ⟨A3, c3, rfl, ho, hb3⟩
          have p0_3 := (p0).below hb3
          obtain ⟨p0a_3, p0b_3⟩ := (p0_3).two
          have p1_3 := (p1).below hb3
          obtain ⟨p1a_3, p1b_3⟩ := (p1_3).two
          have p2_3 := (p2).below hb3
          obtain ⟨p2a_3, p2b_3⟩ := (p2_3).two
          have p2f0_3 := (p2_3).frozen 0
          have p2f1_3 := (p2_3).frozen 1
          have own_3 := (own).below hb3
          have z_3 : wo.heap.size ≤ w3.heap.size := hb3.size
          have B_3 := (hB).trans (hb3.mono (by first | omega | (simp; omega) | simp))
          go_wp2_with fail
          refine bodyPost_ret (v := .agg #[.int .i64 (trimS (l0 + l1) M).1, .slice A3 (trimS (l0 + l1) M).2.length c3]) (by simp [results, Tryz.results93, go_sem, p2a_3, p2b_3]) rfl ?_
          rw [HF3.out]
          exact ⟨A3, c3, rfl, ((ho.setLow (by have := p2.lt; simp; omega) _).setLow (by have := p2.lt; simp; omega) _).mono (by omega), (B_3.setCell (by simp; omega) _).setCell (by simp; omega) _⟩
end Go.Proofs.YtjlifbdaieblpaaGreat
