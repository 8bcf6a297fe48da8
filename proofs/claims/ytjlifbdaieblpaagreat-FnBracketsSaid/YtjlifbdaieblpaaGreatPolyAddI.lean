/-
  Contract: the sum of two polynomials as the program makes it. Conditions: the numbers are far below the machine's.
-/
import Derived.Test.YtjlifbdaieblpaaGreatPolyAdd
namespace Go.Proofs.YtjlifbdaieblpaaGreat
open Go.RowKit
set_option linter.unusedVariables false

/-- the row after both rounds, after one, after none -/
def addStage (N d0 : Nat) (xs0 : List Int) (d1 : Nat) (xs1 : List Int) (t : Int) : List Int :=
  if t = 0 then List.replicate N 0 else if t = 1 then addAt (List.replicate N 0) d0 xs0 else addAt (addAt (List.replicate N 0) d0 xs0) d1 xs1

set_option maxHeartbeats 8000000 in
theorem addPolys_any (l0 : Int) (A0 : Option Addr) (c0 : Nat) (xs0 : List Int) (l1 : Int) (A1 : Option Addr) (c1 : Nat) (xs1 : List Int) (w : World) (h0 : RI w A0 xs0) (h1 : RI w A1 xs1)
    (a0 : -1000000 ≤ l0) (b0 : l0 ≤ 1000000) (a1 : -1000000 ≤ l1) (b1 : l1 ≤ 1000000) (n0 : xs0.length ≤ 1048576) (n1 : xs1.length ≤ 1048576) (k0 : xs0.length ≤ c0) (k1 : xs1.length ≤ c1) (m0 : c0 ≤ 9223372036854775807) (m1 : c1 ≤ 9223372036854775807) :
    Calls Tryz.prog 52 #[.agg #[.int .i64 l0, .slice A0 xs0.length c0], .agg #[.int .i64 l1, .slice A1 xs1.length c1]] w (RetP w (addP l0 xs0 l1 xs1).1 (addP l0 xs0 l1 xs1).2) := by
  have p0 := ((Bx.new w 29 #[.int .i64 l0, .slice A0 xs0.length c0]).alloc (.cells #[.int .i64 l1, .slice A1 xs1.length c1] 29)).alloc (.cells #[.int .i64 0, .slice none 0 0] 29)
  have p1 := (Bx.new_ (w.alloc (.cells #[.int .i64 l0, .slice A0 xs0.length c0] 29)) (w.heap.size + 1) 29 #[.int .i64 l1, .slice A1 xs1.length c1] (by simp)).alloc (.cells #[.int .i64 0, .slice none 0 0] 29)
  have p2 := Bx.new_ ((w.alloc (.cells #[.int .i64 l0, .slice A0 xs0.length c0] 29)).alloc (.cells #[.int .i64 l1, .slice A1 xs1.length c1] 29)) (w.heap.size + 1 + 1) 29 #[.int .i64 0, .slice none 0 0] (by simp)
  have hB : Below w.heap.size w (((w.alloc (.cells #[.int .i64 l0, .slice A0 xs0.length c0] 29)).alloc (.cells #[.int .i64 l1, .slice A1 xs1.length c1] 29)).alloc (.cells #[.int .i64 0, .slice none 0 0] 29)) := (((Below.refl _ _).alloc (Nat.le_refl _) _).alloc (by simp) _).alloc (by simp; omega) _
  have r0 := ((h0.alloc (.cells #[.int .i64 l0, .slice A0 xs0.length c0] 29)).alloc (.cells #[.int .i64 l1, .slice A1 xs1.length c1] 29)).alloc (.cells #[.int .i64 0, .slice none 0 0] 29)
  have r1 := ((h1.alloc (.cells #[.int .i64 l0, .slice A0 xs0.length c0] 29)).alloc (.cells #[.int .i64 l1, .slice A1 xs1.length c1] 29)).alloc (.cells #[.int .i64 0, .slice none 0 0] 29)
  by_cases z0 : xs0.length = 0
  · have HF := hide (show addP l0 xs0 l1 xs1 = trimS l1 xs1 by unfold addP; rw [if_pos z0])
    have e0 : ((xs0.length : Int) == 0) = true := by rw [beq_iff_eq]; omega
    clear z0
    go_enter Tryz.func52, Tryz.ntmps52
    go_wp2_with fail
    refine (trimmed_any l1 A1 c1 xs1 _ r1 (by omega) (by omega) (by omega) k1 m1).mono ?_
    rintro e w3 ⟨A3, c3, rfl, ho, hb⟩
    have q3 := p2.below hb
    obtain ⟨qa, qb⟩ := q3.two
    have qf := q3.frozen 0
    have qg := q3.frozen 1
    have z3 := hb.size
    simp only [World.size_alloc] at z3
    go_wp2_with fail
    refine bodyPost_ret (v := .agg #[.int .i64 (trimS l1 xs1).1, .slice A3 (trimS l1 xs1).2.length c3]) (by simp [results, Tryz.results52, go_sem, qa, qb]) rfl ?_
    rw [HF.out]
    exact ⟨A3, c3, rfl, ((ho.setLow (by simp) _).setLow (by simp) _).mono (by simp; omega), ((hB.trans (hb.mono (by simp; omega))).setCell (by simp; omega) _).setCell (by simp; omega) _⟩
  · have e0 : ((xs0.length : Int) == 0) = false := by rw [beq_eq_false_iff_ne]; omega
    by_cases z1 : xs1.length = 0
    · have HF := hide (show addP l0 xs0 l1 xs1 = trimS l0 xs0 by unfold addP; rw [if_neg z0, if_pos z1])
      have e1 : ((xs1.length : Int) == 0) = true := by rw [beq_iff_eq]; omega
      clear z0 z1
      go_enter Tryz.func52, Tryz.ntmps52
      go_wp2_with fail
      refine (trimmed_any l0 A0 c0 xs0 _ r0 (by omega) (by omega) (by omega) k0 m0).mono ?_
      rintro e w3 ⟨A3, c3, rfl, ho, hb⟩
      have q3 := p2.below hb
      obtain ⟨qa, qb⟩ := q3.two
      have qf := q3.frozen 0
      have qg := q3.frozen 1
      have z3 := hb.size
      simp only [World.size_alloc] at z3
      go_wp2_with fail
      refine bodyPost_ret (v := .agg #[.int .i64 (trimS l0 xs0).1, .slice A3 (trimS l0 xs0).2.length c3]) (by simp [results, Tryz.results52, go_sem, qa, qb]) rfl ?_
      rw [HF.out]
      exact ⟨A3, c3, rfl, ((ho.setLow (by simp) _).setLow (by simp) _).mono (by simp; omega), ((hB.trans (hb.mono (by simp; omega))).setCell (by simp; omega) _).setCell (by simp; omega) _⟩
    · have e1 : ((xs1.length : Int) == 0) = false := by rw [beq_eq_false_iff_ne]; omega
      obtain ⟨L, hL⟩ : ∃ L, L = lowOf l0 l1 := ⟨_, rfl⟩
      obtain ⟨H, hH⟩ : ∃ H, H = highOf (l0 + xs0.length) (l1 + xs1.length) := ⟨_, rfl⟩
      have f1 := lowOf_le l0 l1
      have f2 := highOf_ge (l0 + xs0.length) (l1 + xs1.length)
      have f3 := lowOf_or l0 l1
      have f4 := highOf_or (l0 + xs0.length) (l1 + xs1.length)
      rw [← hL] at f1 f3
      rw [← hH] at f2 f4
      obtain ⟨N, hN⟩ : ∃ N : Nat, H - L = (N : Int) := ⟨(H - L).toNat, by omega⟩
      obtain ⟨d0, hd0⟩ : ∃ d : Nat, l0 - L = (d : Int) := ⟨(l0 - L).toNat, by omega⟩
      obtain ⟨d1, hd1⟩ : ∃ d : Nat, l1 - L = (d : Int) := ⟨(l1 - L).toNat, by omega⟩
      have HF := hide (show addP l0 xs0 l1 xs1 = trimS L (addAt (addAt (List.replicate N 0) d0 xs0) d1 xs1) by
        unfold addP addRaw
        rw [if_neg z0, if_neg z1, ← hL, ← hH, hN, hd0, hd1]
        simp only [Int.toNat_natCast])
      have g0 : d0 + xs0.length ≤ N := by omega
      have g1 : d1 + xs1.length ≤ N := by omega
      have gN : N ≤ 8388608 := by omega
      have gL : -1000000 ≤ L ∧ L ≤ 1000000 := by omega
      have hL' := hide hL
      have hH' := hide hH
      clear hL hH f1 f2 f3 f4 z0 z1
      obtain ⟨gL1, gL2⟩ := gL
      have hmk := fun W : World => run_make_i64 N (by omega) W
      have hnew : OwnI ((((w.alloc (.cells #[.int .i64 l0, .slice A0 xs0.length c0] 29)).alloc (.cells #[.int .i64 l1, .slice A1 xs1.length c1] 29)).alloc (.cells #[.int .i64 0, .slice none 0 0] 29)).alloc (.cells (madeCells #[.int .i64 0] N) 2)) w.heap.size (some ⟨w.heap.size + 1 + 1 + 1, 0, none⟩) N (List.replicate N 0) := OwnI.made _ _ (by simp) (by simp; omega) (by omega)
      have hmin : (if l1 < l0 then l1 else l0) = L := by
        rw [hL'.out]
        unfold lowOf
        by_cases h1 : l0 < l1
        · rw [if_pos h1, if_neg (by omega)]
        · rw [if_neg h1]
          by_cases h2 : l1 < l0
          · rw [if_pos h2]
          · rw [if_neg h2]; omega
      have hmax : (if l0 + (xs0.length : Int) < l1 + (xs1.length : Int) then l1 + (xs1.length : Int) else l0 + (xs0.length : Int)) = H := by
        rw [hH'.out]
        unfold highOf
        by_cases h1 : l1 + (xs1.length : Int) < l0 + (xs0.length : Int)
        · rw [if_pos h1, if_neg (by omega)]
        · rw [if_neg h1]
          by_cases h2 : l0 + (xs0.length : Int) < l1 + (xs1.length : Int)
          · rw [if_pos h2]
          · rw [if_neg h2]; omega
      have hix0 : ∀ W : World, (Instr.index 103 (.agg #[.int .i64 l0, .slice A0 xs0.length c0, .int .i64 l1, .slice A1 xs1.length c1]) (.int .i64 0)).run Tryz.prog W = .ok (.agg #[.int .i64 l0, .slice A0 xs0.length c0]) W := fun _ => by kernel_rfl
      have hix1 : ∀ W : World, (Instr.index 103 (.agg #[.int .i64 l0, .slice A0 xs0.length c0, .int .i64 l1, .slice A1 xs1.length c1]) (.int .i64 1)).run Tryz.prog W = .ok (.agg #[.int .i64 l1, .slice A1 xs1.length c1]) W := fun _ => by kernel_rfl
      have hW3 : Below w.heap.size w ((((w.alloc (.cells #[.int .i64 l0, .slice A0 xs0.length c0] 29)).alloc (.cells #[.int .i64 l1, .slice A1 xs1.length c1] 29)).alloc (.cells #[.int .i64 0, .slice none 0 0] 29)).alloc (.cells (madeCells #[.int .i64 0] N) 2)) := hB.alloc (by simp; omega) _
      have q2 := p2.alloc (.cells (madeCells #[.int .i64 0] N) 2)
      have q4 := Bx.new_ ((((w.alloc (.cells #[.int .i64 l0, .slice A0 xs0.length c0] 29)).alloc (.cells #[.int .i64 l1, .slice A1 xs1.length c1] 29)).alloc (.cells #[.int .i64 0, .slice none 0 0] 29)).alloc (.cells (madeCells #[.int .i64 0] N) 2)) (w.heap.size + 1 + 1 + 1 + 1) 29 #[.int .i64 L, .slice (some ⟨w.heap.size + 1 + 1 + 1, 0, none⟩) N N] (by simp)
      go_enter Tryz.func52, Tryz.ntmps52
      go_wp2_with fail
      go_loopw [51] (fun i wr => ∃ (t : Int), (t = 0 ∨ t = 1 ∨ t = 2) ∧ i = .int .i64 t ∧ OwnI wr w.heap.size (some ⟨w.heap.size + 1 + 1 + 1, 0, none⟩) N (addStage N d0 xs0 d1 xs1 t) ∧
          Bx wr (w.heap.size + 1 + 1) 29 #[.int .i64 0, .slice none 0 0] ∧ Bx wr (w.heap.size + 1 + 1 + 1 + 1) 29 #[.int .i64 L, .slice (some ⟨w.heap.size + 1 + 1 + 1, 0, none⟩) N N] ∧ Below w.heap.size w wr)
        (fun i _ => (2 - intOf i).toNat)
      case atStart => exact ⟨0, .inl rfl, rfl, by simpa [addStage] using hnew.alloc _, q2.alloc _, q4, hW3.alloc (by simp; omega) _⟩
      case round =>
        clear p0 p1 p2 hB r0 r1 q2 q4 hW3 hnew
        obtain ⟨t, ht, rfl, hown, q2, q4, hB⟩ := hrel
        obtain ⟨wo, rfl⟩ : ∃ wo : World, wo = wr := ⟨_, rfl⟩
        have z4 := q4.lt
        rcases ht with rfl | rfl | rfl
        · rw [show addStage N d0 xs0 d1 xs1 0 = List.replicate N 0 from rfl] at hown
          have qp := Bx.new wo 29 #[.int .i64 l0, .slice A0 xs0.length c0]
          have hBp := hB.alloc (by omega) (.cells #[.int .i64 l0, .slice A0 xs0.length c0] 29)
          have hst1 := hide (show addStage N d0 xs0 d1 xs1 1 = addAt (List.replicate N 0) d0 xs0 from rfl)
          go_wp2_with fail
          go_loopw [57] (fun i w2 => ∃ (k : Nat), k ≤ xs0.length ∧ i = .int .i64 k ∧ OwnI w2 w.heap.size (some ⟨w.heap.size + 1 + 1 + 1, 0, none⟩) N (addAt (List.replicate N 0) d0 (xs0.take k)) ∧ Bx w2 (w.heap.size + 1 + 1) 29 #[.int .i64 0, .slice none 0 0] ∧
              Bx w2 (w.heap.size + 1 + 1 + 1 + 1) 29 #[.int .i64 L, .slice (some ⟨w.heap.size + 1 + 1 + 1, 0, none⟩) N N] ∧ Bx w2 wo.heap.size 29 #[.int .i64 l0, .slice A0 xs0.length c0] ∧ Below w.heap.size w w2)
            (fun i _ => xs0.length - (intOf i).toNat)
          case atStart => exact ⟨0, Nat.zero_le _, rfl, by simpa [addAt_nil] using hown.alloc _, q2.alloc _, q4.alloc _, qp, hBp⟩
          case round =>
            clear hown q2 q4 hB qp hBp
            obtain ⟨k, hk, rfl, hown, q2, q4, qp, hB⟩ := hrel
            obtain ⟨qa, qb⟩ := q4.two
            obtain ⟨pa, pb⟩ := qp.two
            by_cases hlt : k < xs0.length
            · obtain ⟨b, off, x, rfl, hb, hx, hc0⟩ := h0.at_ hlt
              have hc := (hB.cell (p := ⟨b, off + k, none⟩) hb).trans hc0
              have hol : ∀ l : List Int, (addAt (List.replicate N 0) d0 l).length = N := fun l => by simp [addAt_length]
              obtain ⟨g, y, hg, hgb, hgs, hy, hgc, hgf, hst⟩ := hown.at_ (k := d0 + k) (by rw [hol]; omega)
              injection hg with hg
              injection hg with hg
              subst hg
              have hs := hst (wrap64 (y + x))
              rw [← addAt_next hx hy] at hs
              have HS1 := hide hs.1
              have HS2 := hs.2
              have P2 := hide (q2.grownNe HS2 (by omega))
              have P4 := hide (q4.grownNe HS2 (by omega))
              have PP := hide (qp.grownNe HS2 (by omega))
              have HB := hide (below_own hB HS2 (by omega) (by omega))
              have e : ((d0 : Int) + (k : Int)).toNat = d0 + k := by omega
              clear hst hs hol hx hy HS2 hc0
              go_wp2_with fail
              go_roundw
              case rel => exact ⟨k + 1, by omega, by go_num, HS1.out, P2.out, P4.out, PP.out, HB.out⟩
              case measure => simp [intOf]; omega
            · have hke : k = xs0.length := by omega
              rw [hke, List.take_of_length_le (Nat.le_refl _)] at hown
              clear hke
              go_wp2_with fail
              go_roundw
              case rel => exact ⟨1, by omega, rfl, by rw [hst1.out]; exact hown, q2, q4, hB⟩
              case measure => simp [intOf]
        · rw [show addStage N d0 xs0 d1 xs1 1 = addAt (List.replicate N 0) d0 xs0 from rfl] at hown
          have qp := Bx.new wo 29 #[.int .i64 l1, .slice A1 xs1.length c1]
          have hBp := hB.alloc (by omega) (.cells #[.int .i64 l1, .slice A1 xs1.length c1] 29)
          have hst1 := hide (show addStage N d0 xs0 d1 xs1 2 = addAt (addAt (List.replicate N 0) d0 xs0) d1 xs1 from rfl)
          go_wp2_with fail
          go_loopw [57] (fun i w2 => ∃ (k : Nat), k ≤ xs1.length ∧ i = .int .i64 k ∧ OwnI w2 w.heap.size (some ⟨w.heap.size + 1 + 1 + 1, 0, none⟩) N (addAt (addAt (List.replicate N 0) d0 xs0) d1 (xs1.take k)) ∧ Bx w2 (w.heap.size + 1 + 1) 29 #[.int .i64 0, .slice none 0 0] ∧
              Bx w2 (w.heap.size + 1 + 1 + 1 + 1) 29 #[.int .i64 L, .slice (some ⟨w.heap.size + 1 + 1 + 1, 0, none⟩) N N] ∧ Bx w2 wo.heap.size 29 #[.int .i64 l1, .slice A1 xs1.length c1] ∧ Below w.heap.size w w2)
            (fun i _ => xs1.length - (intOf i).toNat)
          case atStart => exact ⟨0, Nat.zero_le _, rfl, by simpa [addAt_nil] using hown.alloc _, q2.alloc _, q4.alloc _, qp, hBp⟩
          case round =>
            clear hown q2 q4 hB qp hBp
            obtain ⟨k, hk, rfl, hown, q2, q4, qp, hB⟩ := hrel
            obtain ⟨qa, qb⟩ := q4.two
            obtain ⟨pa, pb⟩ := qp.two
            by_cases hlt : k < xs1.length
            · obtain ⟨b, off, x, rfl, hb, hx, hc0⟩ := h1.at_ hlt
              have hc := (hB.cell (p := ⟨b, off + k, none⟩) hb).trans hc0
              have hol : ∀ l : List Int, (addAt (addAt (List.replicate N 0) d0 xs0) d1 l).length = N := fun l => by simp [addAt_length]
              obtain ⟨g, y, hg, hgb, hgs, hy, hgc, hgf, hst⟩ := hown.at_ (k := d1 + k) (by rw [hol]; omega)
              injection hg with hg
              injection hg with hg
              subst hg
              have hs := hst (wrap64 (y + x))
              rw [← addAt_next hx hy] at hs
              have HS1 := hide hs.1
              have HS2 := hs.2
              have P2 := hide (q2.grownNe HS2 (by omega))
              have P4 := hide (q4.grownNe HS2 (by omega))
              have PP := hide (qp.grownNe HS2 (by omega))
              have HB := hide (below_own hB HS2 (by omega) (by omega))
              have e : ((d1 : Int) + (k : Int)).toNat = d1 + k := by omega
              clear hst hs hol hx hy HS2 hc0
              go_wp2_with fail
              go_roundw
              case rel => exact ⟨k + 1, by omega, by go_num, HS1.out, P2.out, P4.out, PP.out, HB.out⟩
              case measure => simp [intOf]; omega
            · have hke : k = xs1.length := by omega
              rw [hke, List.take_of_length_le (Nat.le_refl _)] at hown
              clear hke
              go_wp2_with fail
              go_roundw
              case rel => exact ⟨2, by omega, rfl, by rw [hst1.out]; exact hown, q2, q4, hB⟩
              case measure => simp [intOf]
        · obtain ⟨out, hout⟩ : ∃ out, addAt (addAt (List.replicate N 0) d0 xs0) d1 xs1 = out := ⟨_, rfl⟩
          rw [show addStage N d0 xs0 d1 xs1 2 = addAt (addAt (List.replicate N 0) d0 xs0) d1 xs1 from rfl] at hown
          have HF2 := HF.out
          rw [hout] at hown HF2
          have HF3 := hide HF2
          have hol : out.length = N := by rw [← hout]; simp [addAt_length]
          clear hout HF HF2
          obtain ⟨qa, qb⟩ := q4.two
          have hcall := trimmed_any L (some ⟨w.heap.size + 1 + 1 + 1, 0, none⟩) N out _ hown.rd (by omega) (by omega) (by omega) (by omega) (by omega)
          rw [hol] at hcall
          have HC := hide hcall
          clear hcall
          go_wp2_with fail
          refine (HC.out).mono ?_
          rintro e w3 ⟨A3, c3, rfl, ho, hb⟩
          have q3 := q2.below hb
          obtain ⟨qa3, qb3⟩ := q3.two
          have qf := q3.frozen 0
          have qg := q3.frozen 1
          have z3 := hb.size
          go_wp2_with fail
          refine bodyPost_ret (v := .agg #[.int .i64 (trimS L out).1, .slice A3 (trimS L out).2.length c3]) (by simp [results, Tryz.results52, go_sem, qa3, qb3]) rfl ?_
          rw [HF3.out]
          exact ⟨A3, c3, rfl, ((ho.setLow (by simp; omega) _).setLow (by simp; omega) _).mono (by omega), ((hB.trans (hb.mono (by omega))).setCell (by simp; omega) _).setCell (by simp; omega) _⟩
end Go.Proofs.YtjlifbdaieblpaaGreat
