/-
  Contract: the product of two polynomials as the program makes it. Conditions: the numbers are far below the machine's.
-/
import Derived.Test.YtjlifbdaieblpaaGreatPolyMul
import Derived.BigRegion
import Derived.Deep.DeepCutAuto
namespace Go.Proofs.YtjlifbdaieblpaaGreat
open Go.RowKit
set_option linter.unusedVariables false

set_option maxHeartbeats 4000000 in
theorem mulPolys_any (l0 : Int) (A0 : Option Addr) (c0 : Nat) (xs0 : List Int) (l1 : Int) (A1 : Option Addr) (c1 : Nat) (xs1 : List Int) (w : World) (h0 : RI w A0 xs0) (h1 : RI w A1 xs1)
    (a0 : -1000000 ≤ l0) (b0 : l0 ≤ 1000000) (a1 : -1000000 ≤ l1) (b1 : l1 ≤ 1000000) (n0 : xs0.length ≤ 1048576) (n1 : xs1.length ≤ 1048576) :
    Calls Tryz.prog 51 #[.agg #[.int .i64 l0, .slice A0 xs0.length c0], .agg #[.int .i64 l1, .slice A1 xs1.length c1]] w (RetP w (mulP l0 xs0 l1 xs1).1 (mulP l0 xs0 l1 xs1).2) := by
  by_cases z0 : xs0.length = 0
  · have HF := hide (mulP_none (l0 := l0) (l1 := l1) (xs0 := xs0) (xs1 := xs1) (.inl z0))
    have e0 : ((xs0.length : Int) == 0) = true := by rw [beq_iff_eq]; omega
    clear z0
    go_enter Tryz.func51, Tryz.ntmps51
    go_wp2_with fail
    refine bodyPost_ret (v := .agg #[.int .i64 0, .slice none 0 0]) (by simp [results, Tryz.results51, go_sem]) rfl ?_
    rw [HF.out]
    exact ⟨_, 0, rfl, OwnI.nil _ _, ((((Below.refl w.heap.size w).alloc (by first | omega | (simp; omega) | simp) (.cells #[.int .i64 l0, .slice A0 xs0.length c0] 29)).alloc (by first | omega | (simp; omega) | simp) (.cells #[.int .i64 l1, .slice A1 xs1.length c1] 29)).alloc (by first | omega | (simp; omega) | simp) (.cells #[.int .i64 0, .slice none 0 0] 29))⟩
  · have e0 : ((xs0.length : Int) == 0) = false := by rw [beq_eq_false_iff_ne]; omega
    by_cases z1 : xs1.length = 0
    · have HF := hide (mulP_none (l0 := l0) (l1 := l1) (xs0 := xs0) (xs1 := xs1) (.inr z1))
      have e1 : ((xs1.length : Int) == 0) = true := by rw [beq_iff_eq]; omega
      clear z0 z1
      go_enter Tryz.func51, Tryz.ntmps51
      go_wp2_with fail
      refine bodyPost_ret (v := .agg #[.int .i64 0, .slice none 0 0]) (by simp [results, Tryz.results51, go_sem]) rfl ?_
      rw [HF.out]
      exact ⟨_, 0, rfl, OwnI.nil _ _, ((((Below.refl w.heap.size w).alloc (by first | omega | (simp; omega) | simp) (.cells #[.int .i64 l0, .slice A0 xs0.length c0] 29)).alloc (by first | omega | (simp; omega) | simp) (.cells #[.int .i64 l1, .slice A1 xs1.length c1] 29)).alloc (by first | omega | (simp; omega) | simp) (.cells #[.int .i64 0, .slice none 0 0] 29))⟩
    · have e1 : ((xs1.length : Int) == 0) = false := by rw [beq_eq_false_iff_ne]; omega
      obtain ⟨N, hN⟩ : ∃ N : Nat, N = xs0.length + xs1.length - 1 := ⟨_, rfl⟩
      have HF := hide (mulP_some (l0 := l0) (l1 := l1) z0 z1)
      rw [← hN] at HF
      have hN2 : (xs0.length : Int) + (xs1.length : Int) - 1 = (N : Int) := by omega
      have gN : N ≤ 8388608 := by omega
      have hNa : xs0.length + xs1.length ≤ N + 1 := by omega
      have hNb : N + 1 ≤ xs0.length + xs1.length := by omega
      clear hN
      have hmk := fun W : World => run_make_i64 N (by omega) W
      have hB := ((((Below.refl w.heap.size w).alloc (by first | omega | (simp; omega) | simp) (.cells #[.int .i64 l0, .slice A0 xs0.length c0] 29)).alloc (by first | omega | (simp; omega) | simp) (.cells #[.int .i64 l1, .slice A1 xs1.length c1] 29)).alloc (by first | omega | (simp; omega) | simp) (.cells #[.int .i64 0, .slice none 0 0] 29))
      have q0 := (((Bx.new_ w (w.heap.size) 29 #[.int .i64 l0, .slice A0 xs0.length c0] (by simp)).alloc (.cells #[.int .i64 l1, .slice A1 xs1.length c1] 29)).alloc (.cells #[.int .i64 0, .slice none 0 0] 29))
      have q1 := ((Bx.new_ (w.alloc (.cells #[.int .i64 l0, .slice A0 xs0.length c0] 29)) (w.heap.size + 1) 29 #[.int .i64 l1, .slice A1 xs1.length c1] (by simp)).alloc (.cells #[.int .i64 0, .slice none 0 0] 29))
      have q2 := (Bx.new_ ((w.alloc (.cells #[.int .i64 l0, .slice A0 xs0.length c0] 29)).alloc (.cells #[.int .i64 l1, .slice A1 xs1.length c1] 29)) (w.heap.size + 1 + 1) 29 #[.int .i64 0, .slice none 0 0] (by simp))
      go_enter Tryz.func51, Tryz.ntmps51
      go_upto_region 3 with fail
      go_cut [5] (fun s5 wx => ∃ (G R : Nat), s5 = .pointer (some ⟨G, 0, none⟩) ∧ G ≠ R ∧ w.heap.size + 1 + 1 + 1 ≤ R ∧ w.heap.size + 1 + 1 + 1 ≤ G ∧ OwnI wx w.heap.size (some ⟨R, 0, none⟩) N (List.replicate N 0) ∧ Bx wx G 29 #[.int .i64 (l0 + l1), .slice (some ⟨R, 0, none⟩) N N] ∧ Bx wx (w.heap.size) 29 #[.int .i64 l0, .slice A0 xs0.length c0] ∧ Bx wx (w.heap.size + 1) 29 #[.int .i64 l1, .slice A1 xs1.length c1] ∧ Bx wx (w.heap.size + 1 + 1) 29 #[.int .i64 0, .slice none 0 0] ∧ Below w.heap.size w wx)
      case first =>
        go_region
        all_goals go_wp2_with fail
        all_goals go_meet
        all_goals first
          | exact ⟨w.heap.size + 1 + 1 + 1 + 1, w.heap.size + 1 + 1 + 1, rfl, by omega, by omega, by omega, ((OwnI.made _ _ (by simp) (by simp; omega) (by omega)).alloc _).drew, (Bx.new_ _ _ _ _ (by simp)).drew, ((q0.alloc _).alloc _).drew, ((q1.alloc _).alloc _).drew, ((q2.alloc _).alloc _).drew, ((hB.alloc (by simp; omega) _).alloc (by simp; omega) _).drew⟩
          | exact ⟨w.heap.size + 1 + 1 + 1, w.heap.size + 1 + 1 + 1 + 1, rfl, by omega, by omega, by omega, (OwnI.made _ _ (by simp) (by simp; omega) (by omega)).drew, ((Bx.new_ _ _ _ _ (by simp)).alloc _).drew, ((q0.alloc _).alloc _).drew, ((q1.alloc _).alloc _).drew, ((q2.alloc _).alloc _).drew, ((hB.alloc (by simp; omega) _).alloc (by simp; omega) _).drew⟩
      case rest =>
        clear q0 q1 q2 hB
        obtain ⟨G, R, rfl, hGR, hR, hG, own, p4, p0, p1, p2, hB⟩ := hcut
        obtain ⟨pa0, pb0⟩ := p0.two
        obtain ⟨pa1, pb1⟩ := p1.two
        have r0c := h0.below hB
        go_wp2_with fail
        go_loopw [39] (fun i wr => ∃ (k : Nat), k ≤ xs0.length ∧ i = .int .i64 k ∧ OwnI wr w.heap.size (some ⟨R, 0, none⟩) N (mulTo N xs0 xs1 k) ∧ Bx wr G 29 #[.int .i64 (l0 + l1), .slice (some ⟨R, 0, none⟩) N N] ∧ Bx wr (w.heap.size + 1) 29 #[.int .i64 l1, .slice A1 xs1.length c1] ∧ Bx wr (w.heap.size + 1 + 1) 29 #[.int .i64 0, .slice none 0 0] ∧ Below w.heap.size w wr) (fun i _ => xs0.length - (intOf i).toNat)
        case atStart => exact ⟨0, Nat.zero_le _, rfl, own, p4, p1, p2, hB⟩
        case round =>
          clear own p4 p0 p1 p2 hB pa0 pb0 pa1 pb1 r0c
          obtain ⟨i, hi, rfl, own, p4, p1, p2, hB⟩ := hrel
          obtain ⟨wo, rfl⟩ : ∃ wo : World, wo = wr := ⟨_, rfl⟩
          obtain ⟨pa1, pb1⟩ := p1.two
          obtain ⟨pa4, pb4⟩ := p4.two
          have z := hB.size
          have r0 := h0.below hB
          by_cases hlt : i < xs0.length
          · obtain ⟨b, off, x, rfl, hb, hx, hc⟩ := r0.at_ hlt
            have HN := hide (mulTo_next N xs0 xs1 i hx)
            obtain ⟨M, hM⟩ : ∃ M, M = mulTo N xs0 xs1 i := ⟨_, rfl⟩
            have hMl : M.length = N := by rw [hM, mulTo_length]
            rw [← hM] at own HN
            clear hM hx
            go_wp2_with fail
            go_loopw [47] (fun j w2 => ∃ (k : Nat), k ≤ xs1.length ∧ j = .int .i64 k ∧ OwnI w2 w.heap.size (some ⟨R, 0, none⟩) N (addAt M i ((rowW x xs1).take k)) ∧ Bx w2 G 29 #[.int .i64 (l0 + l1), .slice (some ⟨R, 0, none⟩) N N] ∧ Bx w2 (w.heap.size + 1) 29 #[.int .i64 l1, .slice A1 xs1.length c1] ∧ Bx w2 (w.heap.size + 1 + 1) 29 #[.int .i64 0, .slice none 0 0] ∧ Below w.heap.size w w2) (fun i _ => xs1.length - (intOf i).toNat)
            case atStart => exact ⟨0, Nat.zero_le _, rfl, by simpa [addAt_nil] using own, p4, p1, p2, hB⟩
            case round =>
              clear own p4 p1 p2 hB r0 pa1 pb1 pa4 pb4 z
              obtain ⟨k, hk, rfl, own, p4, p1, p2, hB⟩ := hrel
              obtain ⟨pa4, pb4⟩ := p4.two
              have z := hB.size
              have r1 := h1.below hB
              by_cases hlt2 : k < xs1.length
              · obtain ⟨b2, off2, y, rfl, hb2, hy, hc2⟩ := r1.at_ hlt2
                have hol : ∀ l : List Int, (addAt M i l).length = N := fun l => by rw [addAt_length, hMl]
                obtain ⟨g, u, hg, hgb, hgs, hu, hgc, hgf, hst⟩ := own.at_ (k := i + k) (by rw [hol]; omega)
                injection hg with hg
                injection hg with hg
                subst hg
                have hs := hst (wrap64 (u + wrap64 (x * y)))
                rw [← addAt_next (rowW_at hy) hu] at hs
                have HS1 := hide hs.1
                have HS2 := hs.2
                have P4 := hide (p4.grownNe HS2 (by omega))
                have P1 := hide (p1.grownNe HS2 (by omega))
                have P2 := hide (p2.grownNe HS2 (by omega))
                have HB := hide (below_own hB HS2 (by omega) (by omega))
                have e : ((i : Int) + (k : Int)).toNat = i + k := by omega
                clear hst hs hol hy hu HS2
                go_wp2_with fail
                go_roundw
                case rel => exact ⟨k + 1, by omega, by go_num, HS1.out, P4.out, P1.out, P2.out, HB.out⟩
                case measure => simp [intOf]; omega
              · have hke : k = xs1.length := by omega
                rw [hke, List.take_of_length_le (by rw [rowW_length]; exact Nat.le_refl _), ← HN.out] at own
                clear hke HN
                go_wp2_with fail
                go_roundw
                case rel => exact ⟨i + 1, by omega, by go_num, own, p4, p1, p2, hB⟩
                case measure => simp [intOf]; omega
          · rw [show i = xs0.length by omega] at own
            go_wp2_with fail
            obtain ⟨M, hM⟩ : ∃ M, mulTo N xs0 xs1 xs0.length = M := ⟨_, rfl⟩
            have HF2 := HF.out
            have hMl : M.length = N := by rw [← hM, mulTo_length]
            rw [hM] at own HF2
            have HF3 := hide HF2
            clear hM HF HF2
            have hcall := trimmed_any (l0 + l1) (some ⟨R, 0, none⟩) N M _ own.rd (by omega) (by omega) (by omega) (by omega) (by omega)
            rw [hMl] at hcall
            have HC := hide hcall
            clear hcall
            refine (HC.out).mono ?_
            rintro e w3 ⟨A3, c3, rfl, ho, hb⟩
            have q3 := p2.below hb
            obtain ⟨qa, qb⟩ := q3.two
            have qf := q3.frozen 0
            have qg := q3.frozen 1
            have z3 := hb.size
            have hp2 := p2.lt
            have HB := hide (hB.trans (hb.mono (by omega)))
            go_wp2_with fail
            refine bodyPost_ret (v := .agg #[.int .i64 (trimS (l0 + l1) M).1, .slice A3 (trimS (l0 + l1) M).2.length c3]) (by simp [results, Tryz.results51, go_sem, qa, qb]) rfl ?_
            rw [HF3.out]
            exact ⟨A3, c3, rfl, ((ho.setLow (by simp; omega) _).setLow (by simp; omega) _).mono (by omega), (HB.out.setCell (by simp; omega) _).setCell (by simp; omega) _⟩
end Go.Proofs.YtjlifbdaieblpaaGreat
