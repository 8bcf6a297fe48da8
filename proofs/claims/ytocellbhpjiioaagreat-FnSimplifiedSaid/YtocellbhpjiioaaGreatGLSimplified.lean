/-
  The walk of the law FnSimplified. Conditions: none.
-/
import Derived.Test.YtocellbhpjiioaaGreatDrS
import Derived.Test.YtocellbhpjiioaaGreatF6M
import Derived.Test.YtocellbhpjiioaaGreatSimpM
import Derived.Test.YtocellbhpjiioaaGreatMovesText2M
import Derived.Test.YtocellbhpjiioaaGreatAppM
namespace Go.Proofs.YtocellbhpjiioaaGreat
open Go.RowKit
set_option linter.unusedVariables false

theorem movesT_list {ms : List (Int × Int × Int)} (h : movesT ms ≠ []) : listB ms = true := by
  unfold movesT at h
  split at h
  · assumption
  · exact absurd rfl h
set_option maxRecDepth 40000 in
set_option maxHeartbeats 16000000 in
theorem walk_LSimplified (w : World) (A0 : Option Addr) (c0 : Nat) (xs0 : List Int) (hx0 : ArgB w A0 c0 xs0) :
    Calls Tryz.prog 3 #[.slice A0 xs0.length c0] w fun e w' => e = .returned (.bool true) ∧ Below w.heap.size w w' := by
  obtain ⟨hl, hm, hr, hb⟩ := hx0
  by_cases hlong : 4096 < xs0.length
  · have hd := decide_eq_true hlong
    go_enter Tryz.func3, Tryz.ntmps3
    go_wp2_with fail
    refine (f6big_any A0 xs0.length c0 w).mono ?_
    rintro e w1 ⟨rfl, rfl⟩
    rw [hd]
    go_wp2_with fail
    go_ret
    exact ⟨rfl, Below.refl _ _⟩
  · have hd := decide_eq_false hlong
    have hn0 : xs0.length ≤ 1048576 := by omega
    have HB := hide hb
    go_enter Tryz.func3, Tryz.ntmps3
    go_wp2_with fail
    refine (f6big_any A0 xs0.length c0 w).mono ?_
    rintro e w0 ⟨rfl, rfl⟩
    rw [hd]
    go_wp2_with fail
    refine (drawSimplifyCode_any A0 c0 xs0 w hr HB.out hn0).mono ?_
    rintro e w1 ⟨X, BX, dX, rfl, hXb, rX, hb1⟩
    have hXl := hXb.len' (by omega) (by omega)
    have a0_1 := (hr).below hb1
    have z_1 : w.heap.size ≤ w1.heap.size := hb1.size
    have B_1 := (Below.refl w.heap.size w).trans (hb1.mono (by first | omega | (simp; omega) | simp))
    clear hd hlong hl hm hb hXb
    obtain ⟨Y, ms, v, hYv⟩ : ∃ Y ms v, simpR X = (Y, ms, v) := ⟨_, _, _, rfl⟩
    have hYl : Y.length + sumLen Y ≤ 1048576 ∧ ms.length ≤ 1048576 := by have := simpR_len X hXl; rw [hYv] at this; exact this
    have HIS : Hid (∀ (W : World) (T : Nat), RC W T BX X → Calls Tryz.prog 6 #[.slice BX X.length dX] W (RetCMI2 W Y ms v)) := hide fun W T h => by
      have := implSimp_any BX dX T X W h hXl
      rw [hYv] at this
      exact this
    have HSS : Hid (∀ (W : World) (T : Nat), RC W T BX X → Calls Tryz.prog 7 #[.slice BX X.length dX] W (RetCMI2 W Y ms v)) := hide fun W T h => by
      have := specSimp_any BX dX T X W h hXl
      rw [hYv] at this
      exact this
    have HYV := hide hYv
    have hYl1 := hYl.1
    have hYl2 := hYl.2
    clear hYv hYl
    go_wp2_with fail
    refine (HIS.out _ _ (rX).rc).mono ?_
    rintro e w2 ⟨EY, fY, EM, fM, lo2, hi2, rfl, hlo2, hhi2, oY, oM, hap2, hb2⟩
    clear hap2
    have a0_2 := (a0_1).below hb2
    have rX_2 := (rX).below hb2
    have z_2 : w1.heap.size ≤ w2.heap.size := hb2.size
    have B_2 := (B_1).trans (hb2.mono (by first | omega | (simp; omega) | simp))
    go_wp2_with fail
    refine (HSS.out _ _ (rX_2).rc).mono ?_
    rintro e w3 ⟨EZ, fZ, EN, fN, lo3, hi3, rfl, hlo3, hhi3, oZ, oN, hap3, hb3⟩
    clear hap3
    have a0_3 := (a0_2).below hb3
    have rX_3 := (rX_2).below hb3
    have oY_3 := (oY).below hb3
    have oM_3 := (oM).below hb3
    have z_3 : w2.heap.size ≤ w3.heap.size := hb3.size
    have B_3 := (B_2).trans (hb3.mono (by first | omega | (simp; omega) | simp))
    go_wp2_with fail
    refine (drawReplayMoves_any A0 c0 xs0 _ (a0_3) HB.out hn0).mono ?_
    rintro e w4 ⟨R, BR, dR, rs, BS, dS, rfl, hRb, hrl, rR, oS, hb4⟩
    have hRl := hRb.len' (by omega) (by omega)
    clear hRb
    have a0_4 := (a0_3).below hb4
    have rX_4 := (rX_3).below hb4
    have oY_4 := (oY_3).below hb4
    have oM_4 := (oM_3).below hb4
    have oZ_4 := (oZ).below hb4
    have oN_4 := (oN).below hb4
    have z_4 : w3.heap.size ≤ w4.heap.size := hb4.size
    have B_4 := (B_3).trans (hb4.mono (by first | omega | (simp; omega) | simp))
    obtain ⟨U, n, one, hUv⟩ : ∃ U n one, replayR R rs = (U, n, one) := ⟨_, _, _, rfl⟩
    have hUl : U.length + sumLen U ≤ 1048576 := by have := replayR_len R rs hRl; rw [hUv] at this; exact this
    have HIR : Hid (∀ (W : World) (T : Nat), RC W T BR R → RG mvE W BS rs → Calls Tryz.prog 9 #[.slice BR R.length dR, .slice BS rs.length dS] W (RetCII W U n one)) := hide fun W T h h2 => by
      have := implReplay_any BR dR T R BS dS rs W h h2 hRl (by omega)
      rw [hUv] at this
      exact this
    have HSR : Hid (∀ (W : World) (T : Nat), RC W T BR R → RG mvE W BS rs → Calls Tryz.prog 10 #[.slice BR R.length dR, .slice BS rs.length dS] W (RetCII W U n one)) := hide fun W T h h2 => by
      have := specReplay_any BR dR T R BS dS rs W h h2 hRl (by omega)
      rw [hUv] at this
      exact this
    clear hUv
    go_wp2_with fail
    refine (HIR.out _ _ (rR).rc ((oS)).rd).mono ?_
    rintro e w5 ⟨E5, f5, rfl, oU, hb5⟩
    have a0_5 := (a0_4).below hb5
    have rX_5 := (rX_4).below hb5
    have oY_5 := (oY_4).below hb5
    have oM_5 := (oM_4).below hb5
    have oZ_5 := (oZ_4).below hb5
    have oN_5 := (oN_4).below hb5
    have rR_5 := (rR).below hb5
    have oS_5 := (oS).below hb5
    have z_5 : w4.heap.size ≤ w5.heap.size := hb5.size
    have B_5 := (B_4).trans (hb5.mono (by first | omega | (simp; omega) | simp))
    go_wp2_with fail
    refine (HSR.out _ _ (rR_5).rc ((oS_5)).rd).mono ?_
    rintro e w6 ⟨E6, f6, rfl, oV, hb6⟩
    have a0_6 := (a0_5).below hb6
    have rX_6 := (rX_5).below hb6
    have oY_6 := (oY_5).below hb6
    have oM_6 := (oM_5).below hb6
    have oZ_6 := (oZ_5).below hb6
    have oN_6 := (oN_5).below hb6
    have rR_6 := (rR_5).below hb6
    have oS_6 := (oS_5).below hb6
    have oU_6 := (oU).below hb6
    have z_6 : w5.heap.size ≤ w6.heap.size := hb6.size
    have B_6 := (B_5).trans (hb6.mono (by first | omega | (simp; omega) | simp))
    go_wp2_with fail
    refine (drawIsReduced_any A0 c0 xs0 _ (a0_6) HB.out hn0).mono ?_
    rintro e w7 ⟨I, BI, dI, rfl, hIb, rI, hb7⟩
    have hIl := hIb.len' (by omega) (by omega)
    clear hIb
    have a0_7 := (a0_6).below hb7
    have rX_7 := (rX_6).below hb7
    have oY_7 := (oY_6).below hb7
    have oM_7 := (oM_6).below hb7
    have oZ_7 := (oZ_6).below hb7
    have oN_7 := (oN_6).below hb7
    have rR_7 := (rR_6).below hb7
    have oS_7 := (oS_6).below hb7
    have oU_7 := (oU_6).below hb7
    have oV_7 := (oV).below hb7
    have z_7 : w6.heap.size ≤ w7.heap.size := hb7.size
    have B_7 := (B_6).trans (hb7.mono (by first | omega | (simp; omega) | simp))
    go_wp2_with fail
    refine (drawMovesText_any A0 c0 xs0 _ (a0_7) HB.out hn0).mono ?_
    rintro e w8 ⟨ts, BT, dT, rfl, htl, oT, hb8⟩
    have a0_8 := (a0_7).below hb8
    have rX_8 := (rX_7).below hb8
    have oY_8 := (oY_7).below hb8
    have oM_8 := (oM_7).below hb8
    have oZ_8 := (oZ_7).below hb8
    have oN_8 := (oN_7).below hb8
    have rR_8 := (rR_7).below hb8
    have oS_8 := (oS_7).below hb8
    have oU_8 := (oU_7).below hb8
    have oV_8 := (oV_7).below hb8
    have rI_8 := (rI).below hb8
    have z_8 : w7.heap.size ≤ w8.heap.size := hb8.size
    have B_8 := (B_7).trans (hb8.mono (by first | omega | (simp; omega) | simp))
    obtain ⟨l, hl⟩ : ∃ l, l = movesT ts := ⟨_, rfl⟩
    have hll : l.length ≤ 6000 := by rw [hl]; exact movesT_len ts
    have HIM : Hid (∀ (W : World), RG mvE W BT ts → Calls Tryz.prog 13 #[.slice BT ts.length dT] W (RetV W (str l))) := hide fun W h => by rw [hl]; exact implMovesText_any BT dT ts W h (by omega)
    have HSM : Hid (∀ (W : World), RG mvE W BT ts → Calls Tryz.prog 21 #[.slice BT ts.length dT] W (RetV W (str l))) := hide fun W h => by rw [hl]; exact specMovesText_any BT dT ts W h (by omega)
    have HBK : Hid (l ≠ [] → readR l = (ts, true)) := hide fun h => by rw [hl] at h ⊢; exact (read_text (movesT_list h)).1
    clear hl
    go_wp2_with fail
    refine (HIM.out _ ((oT)).rd).mono ?_
    rintro e w9 ⟨rfl, hb9⟩
    have a0_9 := (a0_8).below hb9
    have rX_9 := (rX_8).below hb9
    have oY_9 := (oY_8).below hb9
    have oM_9 := (oM_8).below hb9
    have oZ_9 := (oZ_8).below hb9
    have oN_9 := (oN_8).below hb9
    have rR_9 := (rR_8).below hb9
    have oS_9 := (oS_8).below hb9
    have oU_9 := (oU_8).below hb9
    have oV_9 := (oV_8).below hb9
    have rI_9 := (rI_8).below hb9
    have oT_9 := (oT).below hb9
    have z_9 : w8.heap.size ≤ w9.heap.size := hb9.size
    have B_9 := (B_8).trans (hb9.mono (by first | omega | (simp; omega) | simp))
    obtain ⟨bk, okk, hbk⟩ : ∃ bk okk, readR l = (bk, okk) := ⟨_, _, rfl⟩
    have hbkl : bk.length ≤ 120 := by have := readR_len l; rw [hbk] at this; exact this
    have HIB : Hid (∀ W, Calls Tryz.prog 14 #[str l] W (RetMB W bk okk)) := hide fun W => by
      have := implReadMoves_any l W (by omega)
      rw [hbk] at this
      exact this
    have HBK2 := hide hbk
    clear hbk
    go_wp2_with fail
    refine (HIB.out _).mono ?_
    rintro e w10 ⟨E10, f10, rfl, oB, hb10⟩
    have a0_10 := (a0_9).below hb10
    have rX_10 := (rX_9).below hb10
    have oY_10 := (oY_9).below hb10
    have oM_10 := (oM_9).below hb10
    have oZ_10 := (oZ_9).below hb10
    have oN_10 := (oN_9).below hb10
    have rR_10 := (rR_9).below hb10
    have oS_10 := (oS_9).below hb10
    have oU_10 := (oU_9).below hb10
    have oV_10 := (oV_9).below hb10
    have rI_10 := (rI_9).below hb10
    have oT_10 := (oT_9).below hb10
    have z_10 : w9.heap.size ≤ w10.heap.size := hb10.size
    have B_10 := (B_9).trans (hb10.mono (by first | omega | (simp; omega) | simp))
    go_wp2_with fail
    refine (drawReadMoves_any A0 c0 xs0 _ (a0_10) HB.out hn0).mono ?_
    rintro e w11 ⟨S, rfl, hSl, hb11⟩
    have a0_11 := (a0_10).below hb11
    have rX_11 := (rX_10).below hb11
    have oY_11 := (oY_10).below hb11
    have oM_11 := (oM_10).below hb11
    have oZ_11 := (oZ_10).below hb11
    have oN_11 := (oN_10).below hb11
    have rR_11 := (rR_10).below hb11
    have oS_11 := (oS_10).below hb11
    have oU_11 := (oU_10).below hb11
    have oV_11 := (oV_10).below hb11
    have rI_11 := (rI_10).below hb11
    have oT_11 := (oT_10).below hb11
    have oB_11 := (oB).below hb11
    have z_11 : w10.heap.size ≤ w11.heap.size := hb11.size
    have B_11 := (B_10).trans (hb11.mono (by first | omega | (simp; omega) | simp))
    obtain ⟨ra, rb, hra⟩ : ∃ ra rb, readR S = (ra, rb) := ⟨_, _, rfl⟩
    have hral : ra.length ≤ 120 := by have := readR_len S; rw [hra] at this; exact this
    have HIA : Hid (∀ W, Calls Tryz.prog 14 #[str S] W (RetMB W ra rb)) := hide fun W => by
      have := implReadMoves_any S W (by omega)
      rw [hra] at this
      exact this
    have HSA : Hid (∀ W, Calls Tryz.prog 16 #[str S] W (RetMB W ra rb)) := hide fun W => by
      have := specReadMoves_any S W (by omega)
      rw [hra] at this
      exact this
    clear hra
    go_wp2_with fail
    refine (HIA.out _).mono ?_
    rintro e w12 ⟨E12, f12, rfl, oA, hb12⟩
    have a0_12 := (a0_11).below hb12
    have rX_12 := (rX_11).below hb12
    have oY_12 := (oY_11).below hb12
    have oM_12 := (oM_11).below hb12
    have oZ_12 := (oZ_11).below hb12
    have oN_12 := (oN_11).below hb12
    have rR_12 := (rR_11).below hb12
    have oS_12 := (oS_11).below hb12
    have oU_12 := (oU_11).below hb12
    have oV_12 := (oV_11).below hb12
    have rI_12 := (rI_11).below hb12
    have oT_12 := (oT_11).below hb12
    have oB_12 := (oB_11).below hb12
    have z_12 : w11.heap.size ≤ w12.heap.size := hb12.size
    have B_12 := (B_11).trans (hb12.mono (by first | omega | (simp; omega) | simp))
    have hq1 : (v != v) = false := by simp
    have hq2 : (n != n) = false := by simp
    have hq3 : (one != one) = false := by simp
    have hq4 : (rb != rb) = false := by simp
    have hs1 : ∀ (W : World) (t : TypeId), (binOp .neq t (str l) (str l)).run Tryz.prog W = .ok (.bool false) W := fun W t => str_neq_same W t _ l
    have hs2 : ∀ (W : World) (x y : Operand), (eqGuard .neq 9 x y (str l) (str l)).run Tryz.prog W = .ok () W := fun W x y => guard_neq_same W x y l
    have hs3 : ∀ (W : World) (x y : Operand), (eqGuard .neq 9 x y (str l) (.string ⟨#[]⟩)).run Tryz.prog W = .ok () W := fun W x y => guard_neq_lit W x y l
    obtain ⟨ri, hri⟩ : ∃ ri, ri = (validC I && !(firstM I).2) := ⟨_, rfl⟩
    have hrii : (ri != ri) = false := by simp
    have HI1 : Hid (∀ (W : World) (T : Nat), RC W T BI I → Calls Tryz.prog 19 #[.slice BI I.length dI] W (RetV W (.bool ri))) := hide fun W T h => by rw [hri]; exact implReduced_any BI dI T I W h hIl
    have HI2 : Hid (∀ (W : World) (T : Nat), RC W T BI I → Calls Tryz.prog 20 #[.slice BI I.length dI] W (RetV W (.bool ri))) := hide fun W T h => by rw [hri]; exact specReduced_any BI dI T I W h hIl
    clear hri
    go_wp2_with fail
    refine (HSA.out _).mono ?_
    rintro e w13 ⟨E13, f13, rfl, oA2, hb13⟩
    have a0_13 := (a0_12).below hb13
    have rX_13 := (rX_12).below hb13
    have oY_13 := (oY_12).below hb13
    have oM_13 := (oM_12).below hb13
    have oZ_13 := (oZ_12).below hb13
    have oN_13 := (oN_12).below hb13
    have rR_13 := (rR_12).below hb13
    have oS_13 := (oS_12).below hb13
    have oU_13 := (oU_12).below hb13
    have oV_13 := (oV_12).below hb13
    have rI_13 := (rI_12).below hb13
    have oT_13 := (oT_12).below hb13
    have oB_13 := (oB_12).below hb13
    have oA_13 := (oA).below hb13
    have z_13 : w12.heap.size ≤ w13.heap.size := hb13.size
    have B_13 := (B_12).trans (hb13.mono (by first | omega | (simp; omega) | simp))
    go_wp2_with fail
    refine (RetQ.v (sameCode_same _ _ _ _ _ _ Y _ ((oY_13)).rd ((oZ_13)).rd hYl1)).mono ?_
    rintro e w14 ⟨rfl, hb14⟩
    have a0_14 := (a0_13).below hb14
    have rX_14 := (rX_13).below hb14
    have oY_14 := (oY_13).below hb14
    have oM_14 := (oM_13).below hb14
    have oZ_14 := (oZ_13).below hb14
    have oN_14 := (oN_13).below hb14
    have rR_14 := (rR_13).below hb14
    have oS_14 := (oS_13).below hb14
    have oU_14 := (oU_13).below hb14
    have oV_14 := (oV_13).below hb14
    have rI_14 := (rI_13).below hb14
    have oT_14 := (oT_13).below hb14
    have oB_14 := (oB_13).below hb14
    have oA_14 := (oA_13).below hb14
    have oA2_14 := (oA2).below hb14
    have z_14 : w13.heap.size ≤ w14.heap.size := hb14.size
    have B_14 := (B_13).trans (hb14.mono (by first | omega | (simp; omega) | simp))
    go_wp2_with fail
    refine (RetQ.v (f6moves_same _ _ _ _ ms _ ((oM_14)).rd ((oN_14)).rd hYl2)).mono ?_
    rintro e w15 ⟨rfl, hb15⟩
    have a0_15 := (a0_14).below hb15
    have rX_15 := (rX_14).below hb15
    have oY_15 := (oY_14).below hb15
    have oM_15 := (oM_14).below hb15
    have oZ_15 := (oZ_14).below hb15
    have oN_15 := (oN_14).below hb15
    have rR_15 := (rR_14).below hb15
    have oS_15 := (oS_14).below hb15
    have oU_15 := (oU_14).below hb15
    have oV_15 := (oV_14).below hb15
    have rI_15 := (rI_14).below hb15
    have oT_15 := (oT_14).below hb15
    have oB_15 := (oB_14).below hb15
    have oA_15 := (oA_14).below hb15
    have oA2_15 := (oA2_14).below hb15
    have z_15 : w14.heap.size ≤ w15.heap.size := hb15.size
    have B_15 := (B_14).trans (hb15.mono (by first | omega | (simp; omega) | simp))
    go_wp2_with fail
    refine (RetQ.v (sameCode_same _ _ _ _ _ _ U _ ((oU_15)).rd ((oV_15)).rd hUl)).mono ?_
    rintro e w16 ⟨rfl, hb16⟩
    have a0_16 := (a0_15).below hb16
    have rX_16 := (rX_15).below hb16
    have oY_16 := (oY_15).below hb16
    have oM_16 := (oM_15).below hb16
    have oZ_16 := (oZ_15).below hb16
    have oN_16 := (oN_15).below hb16
    have rR_16 := (rR_15).below hb16
    have oS_16 := (oS_15).below hb16
    have oU_16 := (oU_15).below hb16
    have oV_16 := (oV_15).below hb16
    have rI_16 := (rI_15).below hb16
    have oT_16 := (oT_15).below hb16
    have oB_16 := (oB_15).below hb16
    have oA_16 := (oA_15).below hb16
    have oA2_16 := (oA2_15).below hb16
    have z_16 : w15.heap.size ≤ w16.heap.size := hb16.size
    have B_16 := (B_15).trans (hb16.mono (by first | omega | (simp; omega) | simp))
    go_wp2_with fail
    refine (HI1.out _ _ ((rI_16)).rc).mono ?_
    rintro e w17 ⟨rfl, hb17⟩
    have a0_17 := (a0_16).below hb17
    have rX_17 := (rX_16).below hb17
    have oY_17 := (oY_16).below hb17
    have oM_17 := (oM_16).below hb17
    have oZ_17 := (oZ_16).below hb17
    have oN_17 := (oN_16).below hb17
    have rR_17 := (rR_16).below hb17
    have oS_17 := (oS_16).below hb17
    have oU_17 := (oU_16).below hb17
    have oV_17 := (oV_16).below hb17
    have rI_17 := (rI_16).below hb17
    have oT_17 := (oT_16).below hb17
    have oB_17 := (oB_16).below hb17
    have oA_17 := (oA_16).below hb17
    have oA2_17 := (oA2_16).below hb17
    have z_17 : w16.heap.size ≤ w17.heap.size := hb17.size
    have B_17 := (B_16).trans (hb17.mono (by first | omega | (simp; omega) | simp))
    go_wp2_with fail
    refine (HI2.out _ _ ((rI_17)).rc).mono ?_
    rintro e w18 ⟨rfl, hb18⟩
    have a0_18 := (a0_17).below hb18
    have rX_18 := (rX_17).below hb18
    have oY_18 := (oY_17).below hb18
    have oM_18 := (oM_17).below hb18
    have oZ_18 := (oZ_17).below hb18
    have oN_18 := (oN_17).below hb18
    have rR_18 := (rR_17).below hb18
    have oS_18 := (oS_17).below hb18
    have oU_18 := (oU_17).below hb18
    have oV_18 := (oV_17).below hb18
    have rI_18 := (rI_17).below hb18
    have oT_18 := (oT_17).below hb18
    have oB_18 := (oB_17).below hb18
    have oA_18 := (oA_17).below hb18
    have oA2_18 := (oA2_17).below hb18
    have z_18 : w17.heap.size ≤ w18.heap.size := hb18.size
    have B_18 := (B_17).trans (hb18.mono (by first | omega | (simp; omega) | simp))
    by_cases hl0 : l = []
    · have hx0 : ∀ (W : World) (t : TypeId), (binOp .neq t (str l) (.string ⟨#[]⟩)).run Tryz.prog W = .ok (.bool false) W := fun W t => by rw [hl0]; exact str_is_nil W t _
      clear hl0
      go_wp2_with fail
      refine (HSM.out _ ((oT_18)).rd).mono ?_
      rintro e w19 ⟨rfl, hb19⟩
      have a0_19 := (a0_18).below hb19
      have rX_19 := (rX_18).below hb19
      have oY_19 := (oY_18).below hb19
      have oM_19 := (oM_18).below hb19
      have oZ_19 := (oZ_18).below hb19
      have oN_19 := (oN_18).below hb19
      have rR_19 := (rR_18).below hb19
      have oS_19 := (oS_18).below hb19
      have oU_19 := (oU_18).below hb19
      have oV_19 := (oV_18).below hb19
      have rI_19 := (rI_18).below hb19
      have oT_19 := (oT_18).below hb19
      have oB_19 := (oB_18).below hb19
      have oA_19 := (oA_18).below hb19
      have oA2_19 := (oA2_18).below hb19
      have z_19 : w18.heap.size ≤ w19.heap.size := hb19.size
      have B_19 := (B_18).trans (hb19.mono (by first | omega | (simp; omega) | simp))
      go_wp2_with fail
      all_goals try (exfalso; rename_i _ _ hbad _ _ _; injection hbad with hbad; unfold undef at hbad; cases hbad)
      refine (RetQ.v (f6moves_same _ _ _ _ ra _ ((oA_19)).rd ((oA2_19)).rd (by omega))).mono ?_
      rintro e w21 ⟨rfl, hb21⟩
      have a0_21 := (a0_19).below hb21
      have rX_21 := (rX_19).below hb21
      have oY_21 := (oY_19).below hb21
      have oM_21 := (oM_19).below hb21
      have oZ_21 := (oZ_19).below hb21
      have oN_21 := (oN_19).below hb21
      have rR_21 := (rR_19).below hb21
      have oS_21 := (oS_19).below hb21
      have oU_21 := (oU_19).below hb21
      have oV_21 := (oV_19).below hb21
      have rI_21 := (rI_19).below hb21
      have oT_21 := (oT_19).below hb21
      have oB_21 := (oB_19).below hb21
      have oA_21 := (oA_19).below hb21
      have oA2_21 := (oA2_19).below hb21
      have z_21 : w19.heap.size ≤ w21.heap.size := hb21.size
      have B_21 := (B_19).trans (hb21.mono (by first | omega | (simp; omega) | simp))
      by_cases hv0 : v = 0
      · subst hv0
        obtain ⟨d1, d2, d3, d4, d5⟩ := simpR_done (code := X) (by rw [HYV.out])
        rw [HYV.out] at d2 d3 d4 d5
        dsimp only at d2 d3 d4 d5
        have HR2 : Hid (∀ (W : World) (T : Nat), RC W T BX X → RG mvE W EM ms → Calls Tryz.prog 9 #[.slice BX X.length dX, .slice EM ms.length fM] W (RetCII W Y (ms.length : Int) 0)) := hide fun W T h h2 => by
          have := implReplay_any BX dX T X EM fM ms W h h2 hXl hYl2
          rw [d4] at this
          exact this
        obtain ⟨l2, hl2⟩ : ∃ l2, l2 = movesT ms := ⟨_, rfl⟩
        have hl2l : l2.length ≤ 6000 := by rw [hl2]; exact movesT_len ms
        have HM2 : Hid (∀ (W : World), RG mvE W EM ms → Calls Tryz.prog 13 #[.slice EM ms.length fM] W (RetV W (str l2))) := hide fun W h => by rw [hl2]; exact implMovesText_any EM fM ms W h hYl2
        have HB2 : Hid (∀ W, Calls Tryz.prog 14 #[str l2] W (RetMB W ms true)) := hide fun W => by
          have := implReadMoves_any l2 W (by omega)
          rw [hl2, (read_text d5).1, ← hl2] at this
          exact this
        have HI3 : Hid (∀ (W : World) (T : Nat), RC W T EY Y → Calls Tryz.prog 19 #[.slice EY Y.length fY] W (RetV W (.bool true))) := hide fun W T h => by
          have := implReduced_any EY fY T Y W h hYl1
          rw [d2, d3] at this
          exact this
        have hmm : ((ms.length : Int) == (ms.length : Int)) = true := by simp
        clear d1 d2 d3 d4 d5 hl2
        go_wp2_with fail
        refine (HR2.out _ _ ((rX_21)).rc ((oM_21)).rd).mono ?_
        rintro e w22 ⟨EQ, fQ, rfl, oQ, hb22⟩
        have a0_22 := (a0_21).below hb22
        have rX_22 := (rX_21).below hb22
        have oY_22 := (oY_21).below hb22
        have oM_22 := (oM_21).below hb22
        have oZ_22 := (oZ_21).below hb22
        have oN_22 := (oN_21).below hb22
        have rR_22 := (rR_21).below hb22
        have oS_22 := (oS_21).below hb22
        have oU_22 := (oU_21).below hb22
        have oV_22 := (oV_21).below hb22
        have rI_22 := (rI_21).below hb22
        have oT_22 := (oT_21).below hb22
        have oB_22 := (oB_21).below hb22
        have oA_22 := (oA_21).below hb22
        have oA2_22 := (oA2_21).below hb22
        have z_22 : w21.heap.size ≤ w22.heap.size := hb22.size
        have B_22 := (B_21).trans (hb22.mono (by first | omega | (simp; omega) | simp))
        go_wp2_with fail
        refine (HM2.out _ ((oM_22)).rd).mono ?_
        rintro e w23 ⟨rfl, hb23⟩
        have a0_23 := (a0_22).below hb23
        have rX_23 := (rX_22).below hb23
        have oY_23 := (oY_22).below hb23
        have oM_23 := (oM_22).below hb23
        have oZ_23 := (oZ_22).below hb23
        have oN_23 := (oN_22).below hb23
        have rR_23 := (rR_22).below hb23
        have oS_23 := (oS_22).below hb23
        have oU_23 := (oU_22).below hb23
        have oV_23 := (oV_22).below hb23
        have rI_23 := (rI_22).below hb23
        have oT_23 := (oT_22).below hb23
        have oB_23 := (oB_22).below hb23
        have oA_23 := (oA_22).below hb23
        have oA2_23 := (oA2_22).below hb23
        have oQ_23 := (oQ).below hb23
        have z_23 : w22.heap.size ≤ w23.heap.size := hb23.size
        have B_23 := (B_22).trans (hb23.mono (by first | omega | (simp; omega) | simp))
        go_wp2_with fail
        refine (HB2.out _).mono ?_
        rintro e w24 ⟨EP, fP, rfl, oP, hb24⟩
        have a0_24 := (a0_23).below hb24
        have rX_24 := (rX_23).below hb24
        have oY_24 := (oY_23).below hb24
        have oM_24 := (oM_23).below hb24
        have oZ_24 := (oZ_23).below hb24
        have oN_24 := (oN_23).below hb24
        have rR_24 := (rR_23).below hb24
        have oS_24 := (oS_23).below hb24
        have oU_24 := (oU_23).below hb24
        have oV_24 := (oV_23).below hb24
        have rI_24 := (rI_23).below hb24
        have oT_24 := (oT_23).below hb24
        have oB_24 := (oB_23).below hb24
        have oA_24 := (oA_23).below hb24
        have oA2_24 := (oA2_23).below hb24
        have oQ_24 := (oQ_23).below hb24
        have z_24 : w23.heap.size ≤ w24.heap.size := hb24.size
        have B_24 := (B_23).trans (hb24.mono (by first | omega | (simp; omega) | simp))
        go_wp2_with fail
        refine (HI3.out _ _ ((oY_24)).rd).mono ?_
        rintro e w25 ⟨rfl, hb25⟩
        have a0_25 := (a0_24).below hb25
        have rX_25 := (rX_24).below hb25
        have oY_25 := (oY_24).below hb25
        have oM_25 := (oM_24).below hb25
        have oZ_25 := (oZ_24).below hb25
        have oN_25 := (oN_24).below hb25
        have rR_25 := (rR_24).below hb25
        have oS_25 := (oS_24).below hb25
        have oU_25 := (oU_24).below hb25
        have oV_25 := (oV_24).below hb25
        have rI_25 := (rI_24).below hb25
        have oT_25 := (oT_24).below hb25
        have oB_25 := (oB_24).below hb25
        have oA_25 := (oA_24).below hb25
        have oA2_25 := (oA2_24).below hb25
        have oQ_25 := (oQ_24).below hb25
        have oP_25 := (oP).below hb25
        have z_25 : w24.heap.size ≤ w25.heap.size := hb25.size
        have B_25 := (B_24).trans (hb25.mono (by first | omega | (simp; omega) | simp))
        go_wp2_with fail
        refine (RetQ.v (sameCode_same _ _ _ _ _ _ Y _ ((oQ_25)).rd ((oY_25)).rd hYl1)).mono ?_
        rintro e w26 ⟨rfl, hb26⟩
        have a0_26 := (a0_25).below hb26
        have rX_26 := (rX_25).below hb26
        have oY_26 := (oY_25).below hb26
        have oM_26 := (oM_25).below hb26
        have oZ_26 := (oZ_25).below hb26
        have oN_26 := (oN_25).below hb26
        have rR_26 := (rR_25).below hb26
        have oS_26 := (oS_25).below hb26
        have oU_26 := (oU_25).below hb26
        have oV_26 := (oV_25).below hb26
        have rI_26 := (rI_25).below hb26
        have oT_26 := (oT_25).below hb26
        have oB_26 := (oB_25).below hb26
        have oA_26 := (oA_25).below hb26
        have oA2_26 := (oA2_25).below hb26
        have oQ_26 := (oQ_25).below hb26
        have oP_26 := (oP_25).below hb26
        have z_26 : w25.heap.size ≤ w26.heap.size := hb26.size
        have B_26 := (B_25).trans (hb26.mono (by first | omega | (simp; omega) | simp))
        go_wp2_with fail
        refine (RetQ.v (f6moves_same _ _ _ _ ms _ ((oP_26)).rd ((oM_26)).rd hYl2)).mono ?_
        rintro e w27 ⟨rfl, hb27⟩
        have a0_27 := (a0_26).below hb27
        have rX_27 := (rX_26).below hb27
        have oY_27 := (oY_26).below hb27
        have oM_27 := (oM_26).below hb27
        have oZ_27 := (oZ_26).below hb27
        have oN_27 := (oN_26).below hb27
        have rR_27 := (rR_26).below hb27
        have oS_27 := (oS_26).below hb27
        have oU_27 := (oU_26).below hb27
        have oV_27 := (oV_26).below hb27
        have rI_27 := (rI_26).below hb27
        have oT_27 := (oT_26).below hb27
        have oB_27 := (oB_26).below hb27
        have oA_27 := (oA_26).below hb27
        have oA2_27 := (oA2_26).below hb27
        have oQ_27 := (oQ_26).below hb27
        have oP_27 := (oP_26).below hb27
        have z_27 : w26.heap.size ≤ w27.heap.size := hb27.size
        have B_27 := (B_26).trans (hb27.mono (by first | omega | (simp; omega) | simp))
        go_wp2_with fail
        go_ret
        exact ⟨by simp, (B_27)⟩
      · have hv1 : (v != 0) = true := by simpa using hv0
        go_wp2_with fail
        go_ret
        exact ⟨rfl, (B_21)⟩
    · have hx0 : ∀ (W : World) (t : TypeId), (binOp .neq t (str l) (.string ⟨#[]⟩)).run Tryz.prog W = .ok (.bool true) W := fun W t => str_not_nil W t _ hl0
      obtain ⟨e1, e2⟩ : bk = ts ∧ okk = true := by
        have h1 := HBK.out hl0
        rw [HBK2.out] at h1
        injection h1 with h1 h2
        exact ⟨h1, h2⟩
      subst e1 e2
      clear hl0
      go_wp2_with fail
      refine (HSM.out _ ((oT_18)).rd).mono ?_
      rintro e w19 ⟨rfl, hb19⟩
      have a0_19 := (a0_18).below hb19
      have rX_19 := (rX_18).below hb19
      have oY_19 := (oY_18).below hb19
      have oM_19 := (oM_18).below hb19
      have oZ_19 := (oZ_18).below hb19
      have oN_19 := (oN_18).below hb19
      have rR_19 := (rR_18).below hb19
      have oS_19 := (oS_18).below hb19
      have oU_19 := (oU_18).below hb19
      have oV_19 := (oV_18).below hb19
      have rI_19 := (rI_18).below hb19
      have oT_19 := (oT_18).below hb19
      have oB_19 := (oB_18).below hb19
      have oA_19 := (oA_18).below hb19
      have oA2_19 := (oA2_18).below hb19
      have z_19 : w18.heap.size ≤ w19.heap.size := hb19.size
      have B_19 := (B_18).trans (hb19.mono (by first | omega | (simp; omega) | simp))
      go_wp2_with fail
      refine (RetQ.v (f6moves_same _ _ _ _ bk _ ((oB_19)).rd ((oT_19)).rd (by omega))).mono ?_
      rintro e w20 ⟨rfl, hb20⟩
      have a0_20 := (a0_19).below hb20
      have rX_20 := (rX_19).below hb20
      have oY_20 := (oY_19).below hb20
      have oM_20 := (oM_19).below hb20
      have oZ_20 := (oZ_19).below hb20
      have oN_20 := (oN_19).below hb20
      have rR_20 := (rR_19).below hb20
      have oS_20 := (oS_19).below hb20
      have oU_20 := (oU_19).below hb20
      have oV_20 := (oV_19).below hb20
      have rI_20 := (rI_19).below hb20
      have oT_20 := (oT_19).below hb20
      have oB_20 := (oB_19).below hb20
      have oA_20 := (oA_19).below hb20
      have oA2_20 := (oA2_19).below hb20
      have z_20 : w19.heap.size ≤ w20.heap.size := hb20.size
      have B_20 := (B_19).trans (hb20.mono (by first | omega | (simp; omega) | simp))
      go_wp2_with fail
      all_goals try (exfalso; rename_i _ _ hbad _ _ _; injection hbad with hbad; unfold undef at hbad; cases hbad)
      refine (RetQ.v (f6moves_same _ _ _ _ ra _ ((oA_20)).rd ((oA2_20)).rd (by omega))).mono ?_
      rintro e w21 ⟨rfl, hb21⟩
      have a0_21 := (a0_20).below hb21
      have rX_21 := (rX_20).below hb21
      have oY_21 := (oY_20).below hb21
      have oM_21 := (oM_20).below hb21
      have oZ_21 := (oZ_20).below hb21
      have oN_21 := (oN_20).below hb21
      have rR_21 := (rR_20).below hb21
      have oS_21 := (oS_20).below hb21
      have oU_21 := (oU_20).below hb21
      have oV_21 := (oV_20).below hb21
      have rI_21 := (rI_20).below hb21
      have oT_21 := (oT_20).below hb21
      have oB_21 := (oB_20).below hb21
      have oA_21 := (oA_20).below hb21
      have oA2_21 := (oA2_20).below hb21
      have z_21 : w20.heap.size ≤ w21.heap.size := hb21.size
      have B_21 := (B_20).trans (hb21.mono (by first | omega | (simp; omega) | simp))
      by_cases hv0 : v = 0
      · subst hv0
        obtain ⟨d1, d2, d3, d4, d5⟩ := simpR_done (code := X) (by rw [HYV.out])
        rw [HYV.out] at d2 d3 d4 d5
        dsimp only at d2 d3 d4 d5
        have HR2 : Hid (∀ (W : World) (T : Nat), RC W T BX X → RG mvE W EM ms → Calls Tryz.prog 9 #[.slice BX X.length dX, .slice EM ms.length fM] W (RetCII W Y (ms.length : Int) 0)) := hide fun W T h h2 => by
          have := implReplay_any BX dX T X EM fM ms W h h2 hXl hYl2
          rw [d4] at this
          exact this
        obtain ⟨l2, hl2⟩ : ∃ l2, l2 = movesT ms := ⟨_, rfl⟩
        have hl2l : l2.length ≤ 6000 := by rw [hl2]; exact movesT_len ms
        have HM2 : Hid (∀ (W : World), RG mvE W EM ms → Calls Tryz.prog 13 #[.slice EM ms.length fM] W (RetV W (str l2))) := hide fun W h => by rw [hl2]; exact implMovesText_any EM fM ms W h hYl2
        have HB2 : Hid (∀ W, Calls Tryz.prog 14 #[str l2] W (RetMB W ms true)) := hide fun W => by
          have := implReadMoves_any l2 W (by omega)
          rw [hl2, (read_text d5).1, ← hl2] at this
          exact this
        have HI3 : Hid (∀ (W : World) (T : Nat), RC W T EY Y → Calls Tryz.prog 19 #[.slice EY Y.length fY] W (RetV W (.bool true))) := hide fun W T h => by
          have := implReduced_any EY fY T Y W h hYl1
          rw [d2, d3] at this
          exact this
        have hmm : ((ms.length : Int) == (ms.length : Int)) = true := by simp
        clear d1 d2 d3 d4 d5 hl2
        go_wp2_with fail
        refine (HR2.out _ _ ((rX_21)).rc ((oM_21)).rd).mono ?_
        rintro e w22 ⟨EQ, fQ, rfl, oQ, hb22⟩
        have a0_22 := (a0_21).below hb22
        have rX_22 := (rX_21).below hb22
        have oY_22 := (oY_21).below hb22
        have oM_22 := (oM_21).below hb22
        have oZ_22 := (oZ_21).below hb22
        have oN_22 := (oN_21).below hb22
        have rR_22 := (rR_21).below hb22
        have oS_22 := (oS_21).below hb22
        have oU_22 := (oU_21).below hb22
        have oV_22 := (oV_21).below hb22
        have rI_22 := (rI_21).below hb22
        have oT_22 := (oT_21).below hb22
        have oB_22 := (oB_21).below hb22
        have oA_22 := (oA_21).below hb22
        have oA2_22 := (oA2_21).below hb22
        have z_22 : w21.heap.size ≤ w22.heap.size := hb22.size
        have B_22 := (B_21).trans (hb22.mono (by first | omega | (simp; omega) | simp))
        go_wp2_with fail
        refine (HM2.out _ ((oM_22)).rd).mono ?_
        rintro e w23 ⟨rfl, hb23⟩
        have a0_23 := (a0_22).below hb23
        have rX_23 := (rX_22).below hb23
        have oY_23 := (oY_22).below hb23
        have oM_23 := (oM_22).below hb23
        have oZ_23 := (oZ_22).below hb23
        have oN_23 := (oN_22).below hb23
        have rR_23 := (rR_22).below hb23
        have oS_23 := (oS_22).below hb23
        have oU_23 := (oU_22).below hb23
        have oV_23 := (oV_22).below hb23
        have rI_23 := (rI_22).below hb23
        have oT_23 := (oT_22).below hb23
        have oB_23 := (oB_22).below hb23
        have oA_23 := (oA_22).below hb23
        have oA2_23 := (oA2_22).below hb23
        have oQ_23 := (oQ).below hb23
        have z_23 : w22.heap.size ≤ w23.heap.size := hb23.size
        have B_23 := (B_22).trans (hb23.mono (by first | omega | (simp; omega) | simp))
        go_wp2_with fail
        refine (HB2.out _).mono ?_
        rintro e w24 ⟨EP, fP, rfl, oP, hb24⟩
        have a0_24 := (a0_23).below hb24
        have rX_24 := (rX_23).below hb24
        have oY_24 := (oY_23).below hb24
        have oM_24 := (oM_23).below hb24
        have oZ_24 := (oZ_23).below hb24
        have oN_24 := (oN_23).below hb24
        have rR_24 := (rR_23).below hb24
        have oS_24 := (oS_23).below hb24
        have oU_24 := (oU_23).below hb24
        have oV_24 := (oV_23).below hb24
        have rI_24 := (rI_23).below hb24
        have oT_24 := (oT_23).below hb24
        have oB_24 := (oB_23).below hb24
        have oA_24 := (oA_23).below hb24
        have oA2_24 := (oA2_23).below hb24
        have oQ_24 := (oQ_23).below hb24
        have z_24 : w23.heap.size ≤ w24.heap.size := hb24.size
        have B_24 := (B_23).trans (hb24.mono (by first | omega | (simp; omega) | simp))
        go_wp2_with fail
        refine (HI3.out _ _ ((oY_24)).rd).mono ?_
        rintro e w25 ⟨rfl, hb25⟩
        have a0_25 := (a0_24).below hb25
        have rX_25 := (rX_24).below hb25
        have oY_25 := (oY_24).below hb25
        have oM_25 := (oM_24).below hb25
        have oZ_25 := (oZ_24).below hb25
        have oN_25 := (oN_24).below hb25
        have rR_25 := (rR_24).below hb25
        have oS_25 := (oS_24).below hb25
        have oU_25 := (oU_24).below hb25
        have oV_25 := (oV_24).below hb25
        have rI_25 := (rI_24).below hb25
        have oT_25 := (oT_24).below hb25
        have oB_25 := (oB_24).below hb25
        have oA_25 := (oA_24).below hb25
        have oA2_25 := (oA2_24).below hb25
        have oQ_25 := (oQ_24).below hb25
        have oP_25 := (oP).below hb25
        have z_25 : w24.heap.size ≤ w25.heap.size := hb25.size
        have B_25 := (B_24).trans (hb25.mono (by first | omega | (simp; omega) | simp))
        go_wp2_with fail
        refine (RetQ.v (sameCode_same _ _ _ _ _ _ Y _ ((oQ_25)).rd ((oY_25)).rd hYl1)).mono ?_
        rintro e w26 ⟨rfl, hb26⟩
        have a0_26 := (a0_25).below hb26
        have rX_26 := (rX_25).below hb26
        have oY_26 := (oY_25).below hb26
        have oM_26 := (oM_25).below hb26
        have oZ_26 := (oZ_25).below hb26
        have oN_26 := (oN_25).below hb26
        have rR_26 := (rR_25).below hb26
        have oS_26 := (oS_25).below hb26
        have oU_26 := (oU_25).below hb26
        have oV_26 := (oV_25).below hb26
        have rI_26 := (rI_25).below hb26
        have oT_26 := (oT_25).below hb26
        have oB_26 := (oB_25).below hb26
        have oA_26 := (oA_25).below hb26
        have oA2_26 := (oA2_25).below hb26
        have oQ_26 := (oQ_25).below hb26
        have oP_26 := (oP_25).below hb26
        have z_26 : w25.heap.size ≤ w26.heap.size := hb26.size
        have B_26 := (B_25).trans (hb26.mono (by first | omega | (simp; omega) | simp))
        go_wp2_with fail
        refine (RetQ.v (f6moves_same _ _ _ _ ms _ ((oP_26)).rd ((oM_26)).rd hYl2)).mono ?_
        rintro e w27 ⟨rfl, hb27⟩
        have a0_27 := (a0_26).below hb27
        have rX_27 := (rX_26).below hb27
        have oY_27 := (oY_26).below hb27
        have oM_27 := (oM_26).below hb27
        have oZ_27 := (oZ_26).below hb27
        have oN_27 := (oN_26).below hb27
        have rR_27 := (rR_26).below hb27
        have oS_27 := (oS_26).below hb27
        have oU_27 := (oU_26).below hb27
        have oV_27 := (oV_26).below hb27
        have rI_27 := (rI_26).below hb27
        have oT_27 := (oT_26).below hb27
        have oB_27 := (oB_26).below hb27
        have oA_27 := (oA_26).below hb27
        have oA2_27 := (oA2_26).below hb27
        have oQ_27 := (oQ_26).below hb27
        have oP_27 := (oP_26).below hb27
        have z_27 : w26.heap.size ≤ w27.heap.size := hb27.size
        have B_27 := (B_26).trans (hb27.mono (by first | omega | (simp; omega) | simp))
        go_wp2_with fail
        go_ret
        exact ⟨by simp, (B_27)⟩
      · have hv1 : (v != 0) = true := by simpa using hv0
        go_wp2_with fail
        go_ret
        exact ⟨rfl, (B_21)⟩
end Go.Proofs.YtocellbhpjiioaaGreat
