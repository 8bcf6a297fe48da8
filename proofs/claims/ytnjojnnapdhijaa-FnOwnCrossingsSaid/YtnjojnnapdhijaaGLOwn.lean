/-
  The walk of the law FnOwnCrossings. Conditions: none.
-/
import Derived.Test.YtnjojnnapdhijaaDropIM
import Derived.Test.YtnjojnnapdhijaaOwnIM
import Derived.Test.YtnjojnnapdhijaaMeetM
import Derived.Test.YtnjojnnapdhijaaOpenB
namespace Go.Proofs.Ytnjojnnapdhijaa
open Go.RowKit
set_option linter.unusedVariables false

set_option maxRecDepth 40000 in
set_option maxHeartbeats 16000000 in
theorem walk_LOwn (w : World) (A0 : Option Addr) (c0 : Nat) (xs0 : List Int) (hx0 : ArgB w A0 c0 xs0) :
    Calls Try.prog 5 #[.slice A0 xs0.length c0] w fun e w' => e = .returned (.bool true) ∧ Below w.heap.size w w' := by
  obtain ⟨hl, hm, hr, hb⟩ := hx0
  by_cases hlong : 4096 < xs0.length
  · have hd := decide_eq_true hlong
    go_enter Try.func5, Try.ntmps5
    go_wp2_with fail
    refine (f6big_any A0 xs0.length c0 w).mono ?_
    rintro e w1 ⟨rfl, rfl⟩
    rw [hd]
    go_wp2_with fail
    go_ret
    exact ⟨rfl, Below.refl _ _⟩
  · have hd := decide_eq_false hlong
    have hn0 : xs0.length ≤ 1048576 := by omega
    have HB := hide hb
    go_enter Try.func5, Try.ntmps5
    go_wp2_with fail
    refine (f6big_any A0 xs0.length c0 w).mono ?_
    rintro e w0 ⟨rfl, rfl⟩
    rw [hd]
    go_wp2_with fail
    refine (drawDropCurve_any A0 c0 xs0 w hr HB.out hn0).mono ?_
    rintro e w1 ⟨X, BX, dX, kX, rfl, hXb, rX, hb1⟩
    have hXl := (hXb.lenA (by omega) (by omega)).2
    have a0_1 := (hr).below hb1
    have z_1 : w.heap.size ≤ w1.heap.size := hb1.size
    have B_1 := (Below.refl w.heap.size w).trans (hb1.mono (by first | omega | (simp; omega) | simp))
    clear hd hlong hl hm hb hXb
    obtain ⟨Y, v, hYv⟩ : ∃ Y v, dropR X kX = (Y, v) := ⟨_, _, rfl⟩
    have hYl : Y.length + sumLen Y ≤ 1048576 := by have := dropR_len X kX hXl; rw [hYv] at this; exact this
    have HIA : Hid (∀ (W : World) (T : Nat), RC W T BX X → Calls Try.prog 35 #[.slice BX X.length dX, .int .i64 kX] W (RetCC W Y v)) := hide fun W T h => by
      have := implDrop_any BX dX T X kX W h hXl
      rw [hYv] at this
      exact this
    have HSA : Hid (∀ (W : World) (T : Nat), RC W T BX X → Calls Try.prog 36 #[.slice BX X.length dX, .int .i64 kX] W (RetCC W Y v)) := hide fun W T h => by
      have := specDrop_any BX dX T X kX W h hXl
      rw [hYv] at this
      exact this
    have HYV := hide hYv
    clear hYv
    go_wp2_with fail
    refine (HIA.out _ _ (rX).rc).mono ?_
    rintro e w2 ⟨EY, fY, rfl, oY, hb2⟩
    have a0_2 := (a0_1).below hb2
    have rX_2 := (rX).below hb2
    have z_2 : w1.heap.size ≤ w2.heap.size := hb2.size
    have B_2 := (B_1).trans (hb2.mono (by first | omega | (simp; omega) | simp))
    go_wp2_with fail
    refine (HSA.out _ _ (rX_2).rc).mono ?_
    rintro e w3 ⟨EZ, fZ, rfl, oZ, hb3⟩
    have a0_3 := (a0_2).below hb3
    have rX_3 := (rX_2).below hb3
    have oY_3 := (oY).below hb3
    have z_3 : w2.heap.size ≤ w3.heap.size := hb3.size
    have B_3 := (B_2).trans (hb3.mono (by first | omega | (simp; omega) | simp))
    go_wp2_with fail
    refine (drawOwnCrossings_any A0 c0 xs0 _ (a0_3) HB.out hn0).mono ?_
    rintro e w4 ⟨L, BL, dL, kL, rfl, hLb, rL, hb4⟩
    have hLl := (hLb.lenA (by omega) (by omega)).2
    clear hLb
    have a0_4 := (a0_3).below hb4
    have rX_4 := (rX_3).below hb4
    have oY_4 := (oY_3).below hb4
    have oZ_4 := (oZ).below hb4
    have z_4 : w3.heap.size ≤ w4.heap.size := hb4.size
    have B_4 := (B_3).trans (hb4.mono (by first | omega | (simp; omega) | simp))
    obtain ⟨LO, vl, hLO⟩ : ∃ LO vl, ownR L kL = (LO, vl) := ⟨_, _, rfl⟩
    have hLOl : LO.length ≤ 1048576 := by have := ownR_len L kL hLl; rw [hLO] at this; exact this
    have HIL : Hid (∀ (W : World) (T : Nat), RC W T BL L → Calls Try.prog 38 #[.slice BL L.length dL, .int .i64 kL] W (RetIC W LO vl)) := hide fun W T h => by
      have := implOwnCrossings_any BL dL T L kL W h hLl
      rw [hLO] at this
      exact this
    have HSL : Hid (∀ (W : World) (T : Nat), RC W T BL L → Calls Try.prog 39 #[.slice BL L.length dL, .int .i64 kL] W (RetIC W LO vl)) := hide fun W T h => by
      have := specOwnCrossings_any BL dL T L kL W h hLl
      rw [hLO] at this
      exact this
    clear hLO
    go_wp2_with fail
    refine (HIL.out _ _ (rL).rc).mono ?_
    rintro e w5 ⟨E5, f5, rfl, o5, hb5⟩
    have a0_5 := (a0_4).below hb5
    have rX_5 := (rX_4).below hb5
    have oY_5 := (oY_4).below hb5
    have oZ_5 := (oZ_4).below hb5
    have rL_5 := (rL).below hb5
    have z_5 : w4.heap.size ≤ w5.heap.size := hb5.size
    have B_5 := (B_4).trans (hb5.mono (by first | omega | (simp; omega) | simp))
    go_wp2_with fail
    refine (HSL.out _ _ (rL_5).rc).mono ?_
    rintro e w6 ⟨E6, f6, rfl, o6, hb6⟩
    have a0_6 := (a0_5).below hb6
    have rX_6 := (rX_5).below hb6
    have oY_6 := (oY_5).below hb6
    have oZ_6 := (oZ_5).below hb6
    have rL_6 := (rL_5).below hb6
    have o5_6 := (o5).below hb6
    have z_6 : w5.heap.size ≤ w6.heap.size := hb6.size
    have B_6 := (B_5).trans (hb6.mono (by first | omega | (simp; omega) | simp))
    go_wp2_with fail
    refine (drawMeetingsOf_any A0 c0 xs0 _ (a0_6) HB.out hn0).mono ?_
    rintro e w7 ⟨M, BM, dM, rfl, hMb, rM, hb7⟩
    have hMl := (hMb.lenA (by omega) (by omega)).2
    have hM64 := (hMb.lenA (by omega) (by omega)).1
    clear hMb
    have a0_7 := (a0_6).below hb7
    have rX_7 := (rX_6).below hb7
    have oY_7 := (oY_6).below hb7
    have oZ_7 := (oZ_6).below hb7
    have rL_7 := (rL_6).below hb7
    have o5_7 := (o5_6).below hb7
    have o6_7 := (o6).below hb7
    have z_7 : w6.heap.size ≤ w7.heap.size := hb7.size
    have B_7 := (B_6).trans (hb7.mono (by first | omega | (simp; omega) | simp))
    obtain ⟨TB, vt, hTB⟩ : ∃ TB vt, meetR M = (TB, vt) := ⟨_, _, rfl⟩
    have hTBl : TB.length + sumLen TB ≤ 1048576 := by have := meetR_len M; rw [hTB] at this; exact this
    have HIM : Hid (∀ (W : World) (T : Nat), RC W T BM M → Calls Try.prog 41 #[.slice BM M.length dM] W (RetCC W TB vt)) := hide fun W T h => by
      have := implMeet_any BM dM T M W h hMl
      rw [hTB] at this
      exact this
    have HSM : Hid (∀ (W : World) (T : Nat), RC W T BM M → Calls Try.prog 42 #[.slice BM M.length dM] W (RetCC W TB vt)) := hide fun W T h => by
      have := specMeet_any BM dM T M W h hMl
      rw [hTB] at this
      exact this
    have HTB := hide hTB
    clear hTB
    go_wp2_with fail
    refine (HIM.out _ _ (rM).rc).mono ?_
    rintro e w8 ⟨E8, f8, rfl, o8, hb8⟩
    have a0_8 := (a0_7).below hb8
    have rX_8 := (rX_7).below hb8
    have oY_8 := (oY_7).below hb8
    have oZ_8 := (oZ_7).below hb8
    have rL_8 := (rL_7).below hb8
    have o5_8 := (o5_7).below hb8
    have o6_8 := (o6_7).below hb8
    have rM_8 := (rM).below hb8
    have z_8 : w7.heap.size ≤ w8.heap.size := hb8.size
    have B_8 := (B_7).trans (hb8.mono (by first | omega | (simp; omega) | simp))
    go_wp2_with fail
    refine (HSM.out _ _ (rM_8).rc).mono ?_
    rintro e w9 ⟨E9, f9, rfl, o9, hb9⟩
    have a0_9 := (a0_8).below hb9
    have rX_9 := (rX_8).below hb9
    have oY_9 := (oY_8).below hb9
    have oZ_9 := (oZ_8).below hb9
    have rL_9 := (rL_8).below hb9
    have o5_9 := (o5_8).below hb9
    have o6_9 := (o6_8).below hb9
    have rM_9 := (rM_8).below hb9
    have o8_9 := (o8).below hb9
    have z_9 : w8.heap.size ≤ w9.heap.size := hb9.size
    have B_9 := (B_8).trans (hb9.mono (by first | omega | (simp; omega) | simp))
    have hq1 : (v != v) = false := by simp
    have hq2 : (vl != vl) = false := by simp
    have hq3 : (vt != vt) = false := by simp
    go_wp2_with fail
    refine (RetQ.v (sameCode_same _ _ _ _ _ _ Y _ ((oY_9)).rd ((oZ_9)).rd hYl)).mono ?_
    rintro e w10 ⟨rfl, hb10⟩
    have a0_10 := (a0_9).below hb10
    have rX_10 := (rX_9).below hb10
    have oY_10 := (oY_9).below hb10
    have oZ_10 := (oZ_9).below hb10
    have rL_10 := (rL_9).below hb10
    have o5_10 := (o5_9).below hb10
    have o6_10 := (o6_9).below hb10
    have rM_10 := (rM_9).below hb10
    have o8_10 := (o8_9).below hb10
    have o9_10 := (o9).below hb10
    have z_10 : w9.heap.size ≤ w10.heap.size := hb10.size
    have B_10 := (B_9).trans (hb10.mono (by first | omega | (simp; omega) | simp))
    go_wp2_with fail
    refine (RetQ.v (f6ints_same _ _ _ _ LO _ ((o5_10)).rd ((o6_10)).rd hLOl)).mono ?_
    rintro e w11 ⟨rfl, hb11⟩
    have a0_11 := (a0_10).below hb11
    have rX_11 := (rX_10).below hb11
    have oY_11 := (oY_10).below hb11
    have oZ_11 := (oZ_10).below hb11
    have rL_11 := (rL_10).below hb11
    have o5_11 := (o5_10).below hb11
    have o6_11 := (o6_10).below hb11
    have rM_11 := (rM_10).below hb11
    have o8_11 := (o8_10).below hb11
    have o9_11 := (o9_10).below hb11
    have z_11 : w10.heap.size ≤ w11.heap.size := hb11.size
    have B_11 := (B_10).trans (hb11.mono (by first | omega | (simp; omega) | simp))
    go_wp2_with fail
    refine (RetQ.v (f6lists_same _ _ _ _ _ _ TB _ ((o8_11)).rd ((o9_11)).rd hTBl)).mono ?_
    rintro e w12 ⟨rfl, hb12⟩
    have a0_12 := (a0_11).below hb12
    have rX_12 := (rX_11).below hb12
    have oY_12 := (oY_11).below hb12
    have oZ_12 := (oZ_11).below hb12
    have rL_12 := (rL_11).below hb12
    have o5_12 := (o5_11).below hb12
    have o6_12 := (o6_11).below hb12
    have rM_12 := (rM_11).below hb12
    have o8_12 := (o8_11).below hb12
    have o9_12 := (o9_11).below hb12
    have z_12 : w11.heap.size ≤ w12.heap.size := hb12.size
    have B_12 := (B_11).trans (hb12.mono (by first | omega | (simp; omega) | simp))
    clear HIA HSA HIL HSL HIM HSM
    by_cases hvt0 : vt = 0
    · subst hvt0
      obtain ⟨hvM, hTM⟩ : validC M = true ∧ TB = meetT M (sumLen M / 2) := by
        have := HTB.out
        unfold meetR at this
        split at this
        · rename_i h
          injection this with h1 h2
          exact ⟨h, h1.symm⟩
        · injection this with h1 h2
          cases h2
      obtain ⟨nM, hnM⟩ : ∃ nM, nM = M.length := ⟨_, rfl⟩
      have hnM64 : nM ≤ 64 := by omega
      have hTBn : TB.length = nM := by rw [hTM, hnM]; exact (meetT_sq hvM _ (Nat.le_refl _)).1
      have HRT : Hid (∀ i j, i < nM → j < nM → ∃ r, TB[i]? = some r ∧ r.length = nM ∧ r[j]? = some (ent TB i j) ∧ 0 ≤ ent TB i j ∧ ent TB i j ≤ 240) := hide fun i j hi hj => by
        rw [hnM] at hi hj
        obtain ⟨r, h1, h2, h3, h4, h5, _⟩ := meet_at hvM hi hj
        rw [← hTM] at h1 h3 h4 h5
        exact ⟨r, h1, by rw [hnM]; exact h2, h3, h4, h5⟩
      have HSY : Hid (∀ i j, i < nM → j < nM → ent TB i j = ent TB j i) := hide fun i j hi hj => by
        rw [hnM] at hi hj
        rw [hTM]
        exact meet_sym hvM hi hj
      have HPN : Hid (∀ i j, i < nM → j < nM → pS TB i (j + 1) = pS TB i j + ent TB i j) := hide fun i j hi hj => by
        rw [hnM] at hi hj
        rw [hTM]
        exact pS_next hvM hi hj
      have HPB : Hid (∀ i j, i < nM → j ≤ nM → 0 ≤ pS TB i j ∧ pS TB i j ≤ 240 * (j : Int)) := hide fun i j hi hj => by
        rw [hnM] at hi hj
        rw [hTM]
        exact pS_b hvM hi j hj
      have HPE : Hid (∀ i xs, M[i]? = some xs → pS TB i nM + ent TB i i = (xs.length : Int)) := hide fun i xs h => by
        rw [hTM, hnM]
        exact pS_end hvM h
      have HNM := hide hnM
      have HTBN := hide hTBn
      rw [← hnM]
      clear hvM hTM hnM hTBn hq1 hq2 hq3
      go_wp2_with fail
      go_loopw [20] (fun s20 wr => ∃ i : Nat, i ≤ nM ∧ s20 = .int .i64 (i : Int) ∧ Below w12.heap.size w12 wr) (fun s20 _ => nM - (intOf s20).toNat)
      case atStart => exact ⟨0, Nat.zero_le _, rfl, Below.refl _ _⟩
      case round =>
        obtain ⟨i, hi, rfl, hB⟩ := hrel
        obtain ⟨wo, rfl⟩ : ∃ wo : World, wo = wr := ⟨_, rfl⟩
        by_cases hlt : i < nM
        · have hltI : (i : Int) < (nM : Int) := by omega
          have hitb : (i : Int) < (TB.length : Int) := by have := HTBN.out; omega
          have hPZ : pS TB i 0 = 0 := pS_zero _ _
          go_wp2_with fail
          go_loopw [21, 22] (fun s21 s22 wr => ∃ j : Nat, j ≤ nM ∧ s22 = .int .i64 (j : Int) ∧ s21 = .int .i64 (pS TB i j) ∧ Below wo.heap.size wo wr) (fun _ s22 _ => nM - (intOf s22).toNat)
          case atStart => exact ⟨0, Nat.zero_le _, rfl, by rw [hPZ], Below.refl _ _⟩
          case round =>
            clear hPZ
            obtain ⟨j, hj, rfl, rfl, hB2⟩ := hrel
            have hBB := hB.trans (hB2.mono hB.size)
            have o8w := ((o8_12)).below hBB
            obtain ⟨g, B1, d1, r1, hE8, _, _, _, hr1, hc1, _, oR1, _⟩ := o8w.row (k := i) (by have := HTBN.out; omega)
            subst hE8
            by_cases hltj : j < nM
            · have hltJ : (j : Int) < (nM : Int) := by omega
              have hjtb : (j : Int) < (TB.length : Int) := by have := HTBN.out; omega
              obtain ⟨g2, B2, d2, r2, hE82, _, _, _, hr2, hc2, _, oR2, _⟩ := o8w.row (k := j) (by have := HTBN.out; omega)
              injection hE82 with hE82
              injection hE82 with hE82
              subst hE82
              obtain ⟨q1, a1, a2, a3, a4, a5⟩ := HRT.out i j hlt hltj
              obtain ⟨q2, b1, b2, b3, _, _⟩ := HRT.out j i hltj hlt
              rw [hr1] at a1
              injection a1 with a1
              rw [hr2] at b1
              injection b1 with b1
              subst a1 b1
              obtain ⟨g3, x, hB1, _, _, hx, hcx, _, _⟩ := oR1.at_ (k := j) (by omega)
              obtain ⟨g4, y, hB2', _, _, hy, hcy, _, _⟩ := oR2.at_ (k := i) (by omega)
              have hxe : x = ent TB i j := by rw [hx] at a3; injection a3
              have hye : y = ent TB j i := by rw [hy] at b3; injection b3
              have hxy : (x != y) = false := by rw [hxe, hye, HSY.out i j hlt hltj]; simp
              have hjr : (j : Int) < (r1.length : Int) := by omega
              have hir : (i : Int) < (r2.length : Int) := by omega
              have hw1 : IntKind.i64.wrap (pS TB i j + x) = pS TB i (j + 1) := by
                have h1 := HPN.out i j hlt hltj
                have h2 := HPB.out i (j + 1) hlt (by omega)
                rw [hxe, ← h1, IntKind.wrap_i64]
                omega
              subst hB1 hB2'
              have HB2 := hide hB2
              clear hr1 hr2 hx hy hxe hye a2 a3 a4 a5 b2 b3 oR1 oR2 o8w hBB hB2
              go_wp2_with fail
              go_quiet (fail)
              go_wp2_with fail
              go_roundw
              case rel => exact ⟨j + 1, by omega, by go_num, rfl, below_drewN'' HB2.out _⟩
              case measure => simp [intOf]; omega
            · have hltJ : ¬ (j : Int) < (nM : Int) := by omega
              obtain rfl : j = nM := by omega
              obtain ⟨q1, a1, a2, a3, a4, a5⟩ := HRT.out i i hlt hlt
              rw [hr1] at a1
              injection a1 with a1
              subst a1
              obtain ⟨g3, x, hB1, _, _, hx, hcx, _, _⟩ := oR1.at_ (k := i) (by omega)
              have hxe : x = ent TB i i := by rw [hx] at a3; injection a3
              obtain ⟨b5, off5, D5, e5, ys, hBM, _, hys, hcy, _, _, _⟩ := ((((rM_12)).below hBB).rc).row (k := i) (by have := HNM.out; omega)
              have hye := HPE.out i ys hys
              have hwy : IntKind.i64.wrap (pS TB i j + x) = (ys.length : Int) := by
                rw [hxe, hye, IntKind.wrap_i64]
                have h2 := HPB.out i j hlt (by omega)
                omega
              have hyy : ((ys.length : Int) != (ys.length : Int)) = false := by simp
              have hir : (i : Int) < (r1.length : Int) := by omega
              have hiM : (i : Int) < (j : Int) := by omega
              subst hB1 hBM
              have HBB := hide hBB
              clear hr1 hx hxe a2 a3 a4 a5 hys hye oR1 o8w hBB hB2
              go_wp2_with fail
              go_quiet (fail)
              go_wp2_with fail
              go_roundw
              case rel => exact ⟨i + 1, by omega, by go_num, below_drewN'' HBB.out _⟩
              case measure => simp [intOf]; omega
        · have hltI : ¬ (i : Int) < (nM : Int) := by omega
          have hb13 := hB
          obtain ⟨w13, rfl⟩ : ∃ w13 : World, w13 = wo := ⟨_, rfl⟩
          have a0_13 := (a0_12).below hb13
          have rX_13 := (rX_12).below hb13
          have oY_13 := (oY_12).below hb13
          have oZ_13 := (oZ_12).below hb13
          have rL_13 := (rL_12).below hb13
          have o5_13 := (o5_12).below hb13
          have o6_13 := (o6_12).below hb13
          have rM_13 := (rM_12).below hb13
          have o8_13 := (o8_12).below hb13
          have o9_13 := (o9_12).below hb13
          have z_13 : w12.heap.size ≤ w13.heap.size := hb13.size
          have B_13 := (B_12).trans (hb13.mono (by first | omega | (simp; omega) | simp))
          by_cases hv0 : v = 0
          · subst hv0
            obtain ⟨n, hkn, hnX, hvX, hvY, hYX, hcount⟩ := drop_law (code := X) (j := kX) (by rw [HYV.out])
            rw [HYV.out] at hvY hYX hcount
            dsimp only at hvY hYX hcount
            subst hkn
            have hX40 := (valid_sum hvX).1
            obtain ⟨TX, hTX⟩ : ∃ TX, TX = meetT X (sumLen X / 2) := ⟨_, rfl⟩
            have hTXl : TX.length = X.length := by rw [hTX]; exact (meetT_sq hvX _ (Nat.le_refl _)).1
            have HMX : Hid (∀ (W : World) (T : Nat), RC W T BX X → Calls Try.prog 41 #[.slice BX X.length dX] W (RetCC W TX 0)) := hide fun W T h => by
              have := implMeet_any BX dX T X W h hXl
              unfold meetR at this
              rw [if_pos hvX, ← hTX] at this
              exact this
            have HRW : Hid (∀ j, j < X.length → ∃ r, TX[n]? = some r ∧ r.length = X.length ∧ r[j]? = some (ent TX n j)) := hide fun j hj => by
              obtain ⟨r, h1, h2, h3, _⟩ := meet_at hvX hnX hj
              rw [← hTX] at h1 h3
              exact ⟨r, h1, h2, h3⟩
            have HPS : Hid (∀ j, j < X.length → pS TX n (j + 1) = pS TX n j + ent TX n j) := hide fun j hj => by rw [hTX]; exact pS_next hvX hnX hj
            have HPB : Hid (∀ j, j ≤ X.length → 0 ≤ pS TX n j ∧ pS TX n j ≤ 240 * (j : Int)) := hide fun j hj => by rw [hTX]; exact pS_b hvX hnX j hj
            have hPA : pS TX n X.length = rsum (meetT X (sumLen X / 2)) n := by rw [hTX]; exact pS_all hvX hnX
            rw [← hPA] at hcount
            obtain ⟨N, hN⟩ : ∃ N, N = sumLen X / 2 := ⟨_, rfl⟩
            obtain ⟨M2, hM2⟩ : ∃ M2, M2 = sumLen Y / 2 := ⟨_, rfl⟩
            have hN120 : N ≤ 120 := by rw [hN]; exact (valid_sum hvX).2.2
            have HCX : Hid (∀ (W : World) (T : Nat), RC W T BX X → Calls Try.prog 45 #[.slice BX X.length dX] W (RetV W (.tuple #[.int .i64 (N : Int), .int .i64 0]))) := hide fun W T h => by
              have := implCountCoded_any BX dX T X W h hXl
              unfold countR at this
              rw [if_pos hvX, ← hN] at this
              exact this
            have HCY : Hid (∀ (W : World) (T : Nat), RC W T EY Y → Calls Try.prog 45 #[.slice EY Y.length fY] W (RetV W (.tuple #[.int .i64 (M2 : Int), .int .i64 0]))) := hide fun W T h => by
              have := implCountCoded_any EY fY T Y W h hYl
              unfold countR at this
              rw [if_pos hvY, ← hM2] at this
              exact this
            have HVY : Hid (∀ (W : World) (T : Nat), RC W T EY Y → Calls Try.prog 17 #[.slice EY Y.length fY] W (RetV W (.bool true))) := hide fun W T h => by
              have := validCode_any EY fY T Y W h hYl
              rw [hvY] at this
              exact this
            rw [← hN, ← hM2] at hcount
            have HCNT := hide hcount
            have HYX := hide hYX
            have HX40 := hide hX40
            have hnT : (n : Int) < (TX.length : Int) := by omega
            have hnT2 : n < TX.length := by omega
            have HTX := hide hTXl
            clear hvX hvY hYX hcount hTX hPA hN hM2 hTXl hX40
            go_wp2_with fail
            refine (HMX.out _ _ ((rX_13)).rc).mono ?_
            rintro e w14 ⟨ET, fT, rfl, oT, hb14⟩
            have a0_14 := (a0_13).below hb14
            have rX_14 := (rX_13).below hb14
            have oY_14 := (oY_13).below hb14
            have oZ_14 := (oZ_13).below hb14
            have rL_14 := (rL_13).below hb14
            have o5_14 := (o5_13).below hb14
            have o6_14 := (o6_13).below hb14
            have rM_14 := (rM_13).below hb14
            have o8_14 := (o8_13).below hb14
            have o9_14 := (o9_13).below hb14
            have z_14 : w13.heap.size ≤ w14.heap.size := hb14.size
            have B_14 := (B_13).trans (hb14.mono (by first | omega | (simp; omega) | simp))
            go_wp2_with fail
            refine (HCX.out _ _ ((rX_14)).rc).mono ?_
            rintro e w15 ⟨rfl, hb15⟩
            have a0_15 := (a0_14).below hb15
            have rX_15 := (rX_14).below hb15
            have oY_15 := (oY_14).below hb15
            have oZ_15 := (oZ_14).below hb15
            have rL_15 := (rL_14).below hb15
            have o5_15 := (o5_14).below hb15
            have o6_15 := (o6_14).below hb15
            have rM_15 := (rM_14).below hb15
            have o8_15 := (o8_14).below hb15
            have o9_15 := (o9_14).below hb15
            have oT_15 := (oT).below hb15
            have z_15 : w14.heap.size ≤ w15.heap.size := hb15.size
            have B_15 := (B_14).trans (hb15.mono (by first | omega | (simp; omega) | simp))
            go_wp2_with fail
            refine (HCY.out _ _ ((oY_15)).rd).mono ?_
            rintro e w16 ⟨rfl, hb16⟩
            have a0_16 := (a0_15).below hb16
            have rX_16 := (rX_15).below hb16
            have oY_16 := (oY_15).below hb16
            have oZ_16 := (oZ_15).below hb16
            have rL_16 := (rL_15).below hb16
            have o5_16 := (o5_15).below hb16
            have o6_16 := (o6_15).below hb16
            have rM_16 := (rM_15).below hb16
            have o8_16 := (o8_15).below hb16
            have o9_16 := (o9_15).below hb16
            have oT_16 := (oT_15).below hb16
            have z_16 : w15.heap.size ≤ w16.heap.size := hb16.size
            have B_16 := (B_15).trans (hb16.mono (by first | omega | (simp; omega) | simp))
            obtain ⟨g, BR, dR, r, hET, _, _, hgs, hr, hgc, _, oR, _⟩ := ((oT_16)).row hnT2
            have hrl : r.length = X.length := by
              obtain ⟨r', h1, h2, _⟩ := HRW.out n hnX
              rw [hr] at h1
              injection h1 with h1
              rw [h1]
              exact h2
            have HR := hide hr
            have hle1 : ((TX.length : Int) != (X.length : Int)) = false := by rw [HTX.out]; simp
            have hle2 : ((r.length : Int) != (X.length : Int)) = false := by rw [hrl]; simp
            have HRL := hide hrl
            subst hET
            clear hr hrl
            have HPZ : pS TX n 0 = 0 := pS_zero _ _
            go_wp2_with fail
            go_loopw [29, 30] (fun s29 s30 wr => ∃ j : Nat, j ≤ TX.length ∧ s30 = .int .i64 (j : Int) ∧ s29 = .int .i64 (pS TX n j) ∧ Below w16.heap.size w16 wr) (fun _ s30 _ => TX.length - (intOf s30).toNat)
            case atStart => exact ⟨0, Nat.zero_le _, rfl, by rw [HPZ], Below.refl _ _⟩
            case round =>
              clear HPZ
              obtain ⟨j, hj, rfl, rfl, hB⟩ := hrel
              by_cases hlt : j < TX.length
              · have hltj : (j : Int) < (TX.length : Int) := by omega
                have hjX : j < X.length := by have := HTX.out; omega
                have hgc2 := (hB.cell (p := ⟨g, n, none⟩) hgs).trans hgc
                obtain ⟨gR, x, hBR, _, hgRs, hx, hcx, _, _⟩ := (oR.below hB).at_ (k := j) (by rw [HRL.out]; exact hjX)
                have hjr : (j : Int) < (r.length : Int) := by have := HRL.out; omega
                have hxe : x = ent TX n j := by
                  obtain ⟨r', h1, _, h3⟩ := HRW.out j hjX
                  rw [HR.out] at h1
                  injection h1 with h1
                  rw [← h1, hx] at h3
                  injection h3
                have hw1 : IntKind.i64.wrap (pS TX n j + x) = pS TX n (j + 1) := by
                  have h1 := HPS.out j hjX
                  have h2 := HPB.out (j + 1) (by omega)
                  have h3 := HX40.out
                  rw [hxe, ← h1, IntKind.wrap_i64]
                  omega
                subst hBR
                have HBB := hide hB
                clear hx hxe
                go_wp2_with fail
                go_roundw
                case rel => exact ⟨j + 1, by omega, by go_num, rfl, HBB.out⟩
                case measure => simp [intOf]; omega
              · have hltj : ¬ (j : Int) < (TX.length : Int) := by omega
                obtain rfl : j = TX.length := by omega
                obtain ⟨w17, rfl⟩ : ∃ w17 : World, w17 = wr := ⟨_, rfl⟩
                have hb17 := hB
                have a0_17 := (a0_16).below hb17
                have rX_17 := (rX_16).below hb17
                have oY_17 := (oY_16).below hb17
                have oZ_17 := (oZ_16).below hb17
                have rL_17 := (rL_16).below hb17
                have o5_17 := (o5_16).below hb17
                have o6_17 := (o6_16).below hb17
                have rM_17 := (rM_16).below hb17
                have o8_17 := (o8_16).below hb17
                have o9_17 := (o9_16).below hb17
                have oT_17 := (oT_16).below hb17
                have z_17 : w16.heap.size ≤ w17.heap.size := hb17.size
                have B_17 := (B_16).trans (hb17.mono (by first | omega | (simp; omega) | simp))
                have hw2 : IntKind.i64.wrap ((N : Int) - pS TX n TX.length) = (M2 : Int) := by
                  have h1 := HCNT.out
                  have h2 := HPB.out X.length (Nat.le_refl _)
                  rw [← HTX.out] at h1 h2
                  rw [IntKind.wrap_i64]
                  omega
                have hmm : ((M2 : Int) == (M2 : Int)) = true := by simp
                have hw3 : IntKind.i64.wrap ((X.length : Int) - 1) = (Y.length : Int) := by
                  have h1 := HYX.out
                  have h2 := HX40.out
                  rw [IntKind.wrap_i64]
                  omega
                have hw4 : (X.length : Int) - 1 = (Y.length : Int) := by have := HYX.out; omega
                have hyy : ((Y.length : Int) == (Y.length : Int)) = true := by simp
                have hyz : ((Y.length : Int) == (X.length : Int) - 1) = true := by rw [hw4]; simp
                have HW4 := hide hw4
                clear hw4 hgc oR hnT
                go_wp2_with fail
                refine (HVY.out _ _ ((oY_17)).rd).mono ?_
                rintro e w18 ⟨rfl, hb18⟩
                have a0_18 := (a0_17).below hb18
                have rX_18 := (rX_17).below hb18
                have oY_18 := (oY_17).below hb18
                have oZ_18 := (oZ_17).below hb18
                have rL_18 := (rL_17).below hb18
                have o5_18 := (o5_17).below hb18
                have o6_18 := (o6_17).below hb18
                have rM_18 := (rM_17).below hb18
                have o8_18 := (o8_17).below hb18
                have o9_18 := (o9_17).below hb18
                have oT_18 := (oT_17).below hb18
                have z_18 : w17.heap.size ≤ w18.heap.size := hb18.size
                have B_18 := (B_17).trans (hb18.mono (by first | omega | (simp; omega) | simp))
                go_wp2_with fail
                go_ret
                exact ⟨by simp, (B_18)⟩
          · have hv1 : (v != 0) = true := by simpa using hv0
            go_wp2_with fail
            go_ret
            exact ⟨rfl, (B_13)⟩
    · have hvt1 : (vt == 0) = false := by simpa using hvt0
      by_cases hv0 : v = 0
      · subst hv0
        obtain ⟨n, hkn, hnX, hvX, hvY, hYX, hcount⟩ := drop_law (code := X) (j := kX) (by rw [HYV.out])
        rw [HYV.out] at hvY hYX hcount
        dsimp only at hvY hYX hcount
        subst hkn
        have hX40 := (valid_sum hvX).1
        obtain ⟨TX, hTX⟩ : ∃ TX, TX = meetT X (sumLen X / 2) := ⟨_, rfl⟩
        have hTXl : TX.length = X.length := by rw [hTX]; exact (meetT_sq hvX _ (Nat.le_refl _)).1
        have HMX : Hid (∀ (W : World) (T : Nat), RC W T BX X → Calls Try.prog 41 #[.slice BX X.length dX] W (RetCC W TX 0)) := hide fun W T h => by
          have := implMeet_any BX dX T X W h hXl
          unfold meetR at this
          rw [if_pos hvX, ← hTX] at this
          exact this
        have HRW : Hid (∀ j, j < X.length → ∃ r, TX[n]? = some r ∧ r.length = X.length ∧ r[j]? = some (ent TX n j)) := hide fun j hj => by
          obtain ⟨r, h1, h2, h3, _⟩ := meet_at hvX hnX hj
          rw [← hTX] at h1 h3
          exact ⟨r, h1, h2, h3⟩
        have HPS : Hid (∀ j, j < X.length → pS TX n (j + 1) = pS TX n j + ent TX n j) := hide fun j hj => by rw [hTX]; exact pS_next hvX hnX hj
        have HPB : Hid (∀ j, j ≤ X.length → 0 ≤ pS TX n j ∧ pS TX n j ≤ 240 * (j : Int)) := hide fun j hj => by rw [hTX]; exact pS_b hvX hnX j hj
        have hPA : pS TX n X.length = rsum (meetT X (sumLen X / 2)) n := by rw [hTX]; exact pS_all hvX hnX
        rw [← hPA] at hcount
        obtain ⟨N, hN⟩ : ∃ N, N = sumLen X / 2 := ⟨_, rfl⟩
        obtain ⟨M2, hM2⟩ : ∃ M2, M2 = sumLen Y / 2 := ⟨_, rfl⟩
        have hN120 : N ≤ 120 := by rw [hN]; exact (valid_sum hvX).2.2
        have HCX : Hid (∀ (W : World) (T : Nat), RC W T BX X → Calls Try.prog 45 #[.slice BX X.length dX] W (RetV W (.tuple #[.int .i64 (N : Int), .int .i64 0]))) := hide fun W T h => by
          have := implCountCoded_any BX dX T X W h hXl
          unfold countR at this
          rw [if_pos hvX, ← hN] at this
          exact this
        have HCY : Hid (∀ (W : World) (T : Nat), RC W T EY Y → Calls Try.prog 45 #[.slice EY Y.length fY] W (RetV W (.tuple #[.int .i64 (M2 : Int), .int .i64 0]))) := hide fun W T h => by
          have := implCountCoded_any EY fY T Y W h hYl
          unfold countR at this
          rw [if_pos hvY, ← hM2] at this
          exact this
        have HVY : Hid (∀ (W : World) (T : Nat), RC W T EY Y → Calls Try.prog 17 #[.slice EY Y.length fY] W (RetV W (.bool true))) := hide fun W T h => by
          have := validCode_any EY fY T Y W h hYl
          rw [hvY] at this
          exact this
        rw [← hN, ← hM2] at hcount
        have HCNT := hide hcount
        have HYX := hide hYX
        have HX40 := hide hX40
        have hnT : (n : Int) < (TX.length : Int) := by omega
        have hnT2 : n < TX.length := by omega
        have HTX := hide hTXl
        clear hvX hvY hYX hcount hTX hPA hN hM2 hTXl hX40
        go_wp2_with fail
        refine (HMX.out _ _ ((rX_12)).rc).mono ?_
        rintro e w13 ⟨ET, fT, rfl, oT, hb13⟩
        have a0_13 := (a0_12).below hb13
        have rX_13 := (rX_12).below hb13
        have oY_13 := (oY_12).below hb13
        have oZ_13 := (oZ_12).below hb13
        have rL_13 := (rL_12).below hb13
        have o5_13 := (o5_12).below hb13
        have o6_13 := (o6_12).below hb13
        have rM_13 := (rM_12).below hb13
        have o8_13 := (o8_12).below hb13
        have o9_13 := (o9_12).below hb13
        have z_13 : w12.heap.size ≤ w13.heap.size := hb13.size
        have B_13 := (B_12).trans (hb13.mono (by first | omega | (simp; omega) | simp))
        go_wp2_with fail
        refine (HCX.out _ _ ((rX_13)).rc).mono ?_
        rintro e w14 ⟨rfl, hb14⟩
        have a0_14 := (a0_13).below hb14
        have rX_14 := (rX_13).below hb14
        have oY_14 := (oY_13).below hb14
        have oZ_14 := (oZ_13).below hb14
        have rL_14 := (rL_13).below hb14
        have o5_14 := (o5_13).below hb14
        have o6_14 := (o6_13).below hb14
        have rM_14 := (rM_13).below hb14
        have o8_14 := (o8_13).below hb14
        have o9_14 := (o9_13).below hb14
        have oT_14 := (oT).below hb14
        have z_14 : w13.heap.size ≤ w14.heap.size := hb14.size
        have B_14 := (B_13).trans (hb14.mono (by first | omega | (simp; omega) | simp))
        go_wp2_with fail
        refine (HCY.out _ _ ((oY_14)).rd).mono ?_
        rintro e w15 ⟨rfl, hb15⟩
        have a0_15 := (a0_14).below hb15
        have rX_15 := (rX_14).below hb15
        have oY_15 := (oY_14).below hb15
        have oZ_15 := (oZ_14).below hb15
        have rL_15 := (rL_14).below hb15
        have o5_15 := (o5_14).below hb15
        have o6_15 := (o6_14).below hb15
        have rM_15 := (rM_14).below hb15
        have o8_15 := (o8_14).below hb15
        have o9_15 := (o9_14).below hb15
        have oT_15 := (oT_14).below hb15
        have z_15 : w14.heap.size ≤ w15.heap.size := hb15.size
        have B_15 := (B_14).trans (hb15.mono (by first | omega | (simp; omega) | simp))
        obtain ⟨g, BR, dR, r, hET, _, _, hgs, hr, hgc, _, oR, _⟩ := ((oT_15)).row hnT2
        have hrl : r.length = X.length := by
          obtain ⟨r', h1, h2, _⟩ := HRW.out n hnX
          rw [hr] at h1
          injection h1 with h1
          rw [h1]
          exact h2
        have HR := hide hr
        have hle1 : ((TX.length : Int) != (X.length : Int)) = false := by rw [HTX.out]; simp
        have hle2 : ((r.length : Int) != (X.length : Int)) = false := by rw [hrl]; simp
        have HRL := hide hrl
        subst hET
        clear hr hrl
        have HPZ : pS TX n 0 = 0 := pS_zero _ _
        go_wp2_with fail
        go_loopw [29, 30] (fun s29 s30 wr => ∃ j : Nat, j ≤ TX.length ∧ s30 = .int .i64 (j : Int) ∧ s29 = .int .i64 (pS TX n j) ∧ Below w15.heap.size w15 wr) (fun _ s30 _ => TX.length - (intOf s30).toNat)
        case atStart => exact ⟨0, Nat.zero_le _, rfl, by rw [HPZ], Below.refl _ _⟩
        case round =>
          clear HPZ
          obtain ⟨j, hj, rfl, rfl, hB⟩ := hrel
          by_cases hlt : j < TX.length
          · have hltj : (j : Int) < (TX.length : Int) := by omega
            have hjX : j < X.length := by have := HTX.out; omega
            have hgc2 := (hB.cell (p := ⟨g, n, none⟩) hgs).trans hgc
            obtain ⟨gR, x, hBR, _, hgRs, hx, hcx, _, _⟩ := (oR.below hB).at_ (k := j) (by rw [HRL.out]; exact hjX)
            have hjr : (j : Int) < (r.length : Int) := by have := HRL.out; omega
            have hxe : x = ent TX n j := by
              obtain ⟨r', h1, _, h3⟩ := HRW.out j hjX
              rw [HR.out] at h1
              injection h1 with h1
              rw [← h1, hx] at h3
              injection h3
            have hw1 : IntKind.i64.wrap (pS TX n j + x) = pS TX n (j + 1) := by
              have h1 := HPS.out j hjX
              have h2 := HPB.out (j + 1) (by omega)
              have h3 := HX40.out
              rw [hxe, ← h1, IntKind.wrap_i64]
              omega
            subst hBR
            have HBB := hide hB
            clear hx hxe
            go_wp2_with fail
            go_roundw
            case rel => exact ⟨j + 1, by omega, by go_num, rfl, HBB.out⟩
            case measure => simp [intOf]; omega
          · have hltj : ¬ (j : Int) < (TX.length : Int) := by omega
            obtain rfl : j = TX.length := by omega
            obtain ⟨w16, rfl⟩ : ∃ w16 : World, w16 = wr := ⟨_, rfl⟩
            have hb16 := hB
            have a0_16 := (a0_15).below hb16
            have rX_16 := (rX_15).below hb16
            have oY_16 := (oY_15).below hb16
            have oZ_16 := (oZ_15).below hb16
            have rL_16 := (rL_15).below hb16
            have o5_16 := (o5_15).below hb16
            have o6_16 := (o6_15).below hb16
            have rM_16 := (rM_15).below hb16
            have o8_16 := (o8_15).below hb16
            have o9_16 := (o9_15).below hb16
            have oT_16 := (oT_15).below hb16
            have z_16 : w15.heap.size ≤ w16.heap.size := hb16.size
            have B_16 := (B_15).trans (hb16.mono (by first | omega | (simp; omega) | simp))
            have hw2 : IntKind.i64.wrap ((N : Int) - pS TX n TX.length) = (M2 : Int) := by
              have h1 := HCNT.out
              have h2 := HPB.out X.length (Nat.le_refl _)
              rw [← HTX.out] at h1 h2
              rw [IntKind.wrap_i64]
              omega
            have hmm : ((M2 : Int) == (M2 : Int)) = true := by simp
            have hw3 : IntKind.i64.wrap ((X.length : Int) - 1) = (Y.length : Int) := by
              have h1 := HYX.out
              have h2 := HX40.out
              rw [IntKind.wrap_i64]
              omega
            have hw4 : (X.length : Int) - 1 = (Y.length : Int) := by have := HYX.out; omega
            have hyy : ((Y.length : Int) == (Y.length : Int)) = true := by simp
            have hyz : ((Y.length : Int) == (X.length : Int) - 1) = true := by rw [hw4]; simp
            have HW4 := hide hw4
            clear hw4 hgc oR hnT
            go_wp2_with fail
            refine (HVY.out _ _ ((oY_16)).rd).mono ?_
            rintro e w17 ⟨rfl, hb17⟩
            have a0_17 := (a0_16).below hb17
            have rX_17 := (rX_16).below hb17
            have oY_17 := (oY_16).below hb17
            have oZ_17 := (oZ_16).below hb17
            have rL_17 := (rL_16).below hb17
            have o5_17 := (o5_16).below hb17
            have o6_17 := (o6_16).below hb17
            have rM_17 := (rM_16).below hb17
            have o8_17 := (o8_16).below hb17
            have o9_17 := (o9_16).below hb17
            have oT_17 := (oT_16).below hb17
            have z_17 : w16.heap.size ≤ w17.heap.size := hb17.size
            have B_17 := (B_16).trans (hb17.mono (by first | omega | (simp; omega) | simp))
            go_wp2_with fail
            go_ret
            exact ⟨by simp, (B_17)⟩
      · have hv1 : (v != 0) = true := by simpa using hv0
        go_wp2_with fail
        go_ret
        exact ⟨rfl, (B_12)⟩
end Go.Proofs.Ytnjojnnapdhijaa
