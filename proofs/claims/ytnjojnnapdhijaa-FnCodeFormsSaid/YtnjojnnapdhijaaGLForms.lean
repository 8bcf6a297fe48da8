/-
  The walk of the law FnCodeForms. Conditions: none.
-/
import Derived.Test.YtnjojnnapdhijaaDrF
import Derived.Test.YtnjojnnapdhijaaRollM
import Derived.Test.YtnjojnnapdhijaaLeastSM
import Derived.Test.YtnjojnnapdhijaaSwapM
import Derived.Test.YtnjojnnapdhijaaStab4
import Derived.Test.YtnjojnnapdhijaaSortS
import Derived.Test.YtnjojnnapdhijaaF6M
import Derived.Test.YtnjojnnapdhijaaOpenB
import Derived.Deep.CutRange
namespace Go.Proofs.Ytnjojnnapdhijaa
open Go.RowKit
set_option linter.unusedVariables false

theorem flatten_perm {s t : List (List Int)} (h : s.Perm t) : s.flatten.Perm t.flatten := by
  induction h with
  | nil => exact List.Perm.refl _
  | cons x _ ih => simp only [List.flatten_cons]; exact ih.append_left x
  | swap x y l => simp only [List.flatten_cons, ← List.append_assoc]; exact List.perm_append_comm.append_right _
  | trans _ _ ih1 ih2 => exact ih1.trans ih2
theorem sort_valid {S : List (List Int)} (hv : validC S = true) : validC (sortC S) = true := by
  obtain ⟨N, g1, g2, g3, g4⟩ := validC_true hv
  have hf := flatten_perm (sortC_perm S)
  rw [validC_good (N := N) (by rw [sortC_len]; exact g1) (by rw [← flatten_len, hf.length_eq, flatten_len]; exact g2) g3]
  exact decide_eq_true ⟨hf.nodup_iff.2 g4.1, fun x hx => g4.2 x (hf.mem_iff.1 hx)⟩
theorem sort_facts (S : List (List Int)) : (sortR S).1.length + sumLen (sortR S).1 ≤ 1048576 ∧ ((sortR S).2 = 0 → (sortR S).1.length = S.length ∧ validC (sortR S).1 = true ∧ sortR (sortR S).1 = ((sortR S).1, 0)) := by
  cases hv : validC S
  · rw [sortR_no hv]
    exact ⟨by decide, fun h => by cases h⟩
  · rw [sortR_ok hv]
    have h := sort_valid hv
    have := valid_sum h
    exact ⟨by simp only; omega, fun _ => ⟨sortC_len S, h, by simp only; rw [sortR_ok h, sortC_again]⟩⟩
theorem ren_facts (X : List (List Int)) : (renR X).1.length + sumLen (renR X).1 ≤ 1048576 ∧ ((renR X).2 = 0 → validC (renR X).1 = true ∧ renR (renR X).1 = ((renR X).1, 0)) := by
  cases hv : validC X
  · have e : renR X = ([], 1) := by unfold renR; rw [if_neg (by rw [hv]; simp)]
    rw [e]
    exact ⟨by decide, fun h => by cases h⟩
  · have e : renR X = (renameC X, 0) := by unfold renR; rw [if_pos hv]
    have h := ren_valid hv
    have := valid_sum h
    have e2 : renR (renameC X) = (renameC X, 0) := by unfold renR; rw [if_pos h, ren_twice hv]
    rw [e]
    exact ⟨by simp only; omega, fun _ => ⟨h, e2⟩⟩
theorem least_facts {L : List (List Int)} (h : (leastCR L).2 = 0) : ∃ xs, L = [xs] ∧ validC [xs] = true ∧ leastCR L = ([leastR xs], 0) := by
  cases hv : validC L
  · have e : leastCR L = ([], 1) := by unfold leastCR; rw [if_neg (by rw [hv]; simp)]
    rw [e] at h
    cases h
  · by_cases h1 : L.length = 1
    · obtain ⟨xs, rfl⟩ : ∃ xs, L = [xs] := List.length_eq_one_iff.1 h1
      exact ⟨xs, rfl, hv, by unfold leastCR; rw [if_pos hv, if_pos h1]; rfl⟩
    · have e : leastCR L = ([], 6) := by unfold leastCR; rw [if_pos hv, if_neg h1]
      rw [e] at h
      cases h
/-- the curve turned, and turned back, has the same least form -/
theorem back_facts {xs : List Int} (hv : validC [xs] = true) (a : Nat) : validC [turnL xs (a % xs.length) false] = true ∧ validC [(turnL xs (a % xs.length) false).reverse] = true ∧ leastCR [(turnL xs (a % xs.length) false).reverse] = ([leastR xs], 0) := by
  have h1 : validC [turnL xs (a % xs.length) false] = true := by
    by_cases h : 0 < xs.length
    · exact valid_perm (turnL_perm (Nat.mod_lt _ h)) hv
    · obtain rfl : xs = [] := List.eq_nil_of_length_eq_zero (by omega)
      exact hv
  have h2 := valid_perm (List.reverse_perm (turnL xs (a % xs.length) false)) h1
  refine ⟨h1, h2, ?_⟩
  unfold leastCR
  rw [if_pos h2, if_pos (by rfl)]
  simp only [List.getD_cons_zero]
  rw [least_turned]
theorem turnOne_any (A : Option Addr) (c T a : Nat) (xs : List Int) (w : World) (hc : RC w T A [xs]) (hv : validC [xs] = true) (ha : a ≤ 1000) :
    Calls Try.prog 30 #[.slice A 1 c, .int .i64 0, .int .i64 (a : Int)] w (RetCC w [turnL xs (a % xs.length) false] 0) := by
  by_cases h : 0 < xs.length
  · exact implTurnOne_any A c T a xs w hc hv h ha
  · obtain rfl : xs = [] := List.eq_nil_of_length_eq_zero (by omega)
    exact implTurnNil_any A c T a w hc hv ha
theorem sameV (A B : Option Addr) (c d T1 T2 : Nat) (xs : List (List Int)) (w : World) (hA : RC w T1 A xs) (hB : RC w T2 B xs) (hn : xs.length + sumLen xs ≤ 1048576) :
    Calls Try.prog 29 #[.slice A xs.length c, .slice B xs.length d] w (RetV w (.bool true)) :=
  (sameCode_same A B c d T1 T2 xs w hA hB hn).mono fun e w' ⟨h1, n, h2⟩ => ⟨h1, by rw [h2]; exact below_drewN (Below.refl _ _) n⟩

set_option maxRecDepth 40000 in
set_option maxHeartbeats 16000000 in
theorem walk_LForms (w : World) (A0 : Option Addr) (c0 : Nat) (xs0 : List Int) (hx0 : ArgB w A0 c0 xs0) :
    Calls Try.prog 4 #[.slice A0 xs0.length c0] w fun e w' => e = .returned (.bool true) ∧ Below w.heap.size w w' := by
  obtain ⟨hl, hm, hr, hb⟩ := hx0
  by_cases hlong : 4096 < xs0.length
  · have hd := decide_eq_true hlong
    go_enter Try.func4, Try.ntmps4
    go_wp2_with fail
    refine (f6big_any A0 xs0.length c0 w).mono ?_
    rintro e w1 ⟨rfl, rfl⟩
    rw [hd]
    go_wp2_with fail
    go_ret
    exact ⟨rfl, Below.refl _ _⟩
  · have hd := decide_eq_false hlong
    have hn0 : xs0.length ≤ 1048576 := by omega
    have HB := hide hb
    go_enter Try.func4, Try.ntmps4
    go_wp2_with fail
    refine (f6big_any A0 xs0.length c0 w).mono ?_
    rintro e w0 ⟨rfl, rfl⟩
    rw [hd]
    go_wp2_with fail
    refine (drawRenameCode_any A0 c0 xs0 w hr HB.out hn0).mono ?_
    rintro e w1 ⟨X, BX, dX, rfl, hXb, rX, hb1⟩
    have hXl := (hXb.lenA (by omega) (by omega)).2
    have a0_1 := (hr).below hb1
    have z_1 : w.heap.size ≤ w1.heap.size := hb1.size
    have B_1 := (Below.refl w.heap.size w).trans (hb1.mono (by first | omega | (simp; omega) | simp))
    clear hd hlong hl hm hb hXb
    have HFX := hide (ren_facts X)
    have HIX := hide (fun (W : World) (T : Nat) (h : RC W T BX X) => implRename_any BX dX T X W h hXl)
    have HSX := hide (fun (W : World) (T : Nat) (h : RC W T BX X) => specRename_any BX dX T X W h hXl)
    obtain ⟨Y, hY⟩ : ∃ Y, Y = (renR X).1 := ⟨_, rfl⟩
    obtain ⟨vb, hvb⟩ : ∃ v, v = (renR X).2 := ⟨_, rfl⟩
    rw [← hY, ← hvb] at HFX HIX HSX
    clear hY hvb
    go_wp2_with fail
    refine (HIX.out _ _ (rX).rc).mono ?_
    rintro e w2 ⟨AY, cY, rfl, oY, hb2⟩
    have a0_2 := (a0_1).below hb2
    have rX_2 := (rX).below hb2
    have z_2 : w1.heap.size ≤ w2.heap.size := hb2.size
    have B_2 := (B_1).trans (hb2.mono (by first | omega | (simp; omega) | simp))
    go_wp2_with fail
    refine (HSX.out _ _ (rX_2).rc).mono ?_
    rintro e w3 ⟨AV, cV, rfl, oV, hb3⟩
    have a0_3 := (a0_2).below hb3
    have rX_3 := (rX_2).below hb3
    have rY_3 := (oY.rd).below hb3
    have z_3 : w2.heap.size ≤ w3.heap.size := hb3.size
    have B_3 := (B_2).trans (hb3.mono (by first | omega | (simp; omega) | simp))
    clear HIX HSX oY
    go_wp2_with fail
    refine (drawLeastCode_any A0 c0 xs0 _ (a0_3) HB.out hn0).mono ?_
    rintro e w4 ⟨L, BL, dL, rfl, hLb, rL, hb4⟩
    have hLl := (hLb.lenA (by omega) (by omega)).2
    clear hLb
    have a0_4 := (a0_3).below hb4
    have rY_4 := (rY_3).below hb4
    have rV_4 := (oV.rd).below hb4
    have z_4 : w3.heap.size ≤ w4.heap.size := hb4.size
    have B_4 := (B_3).trans (hb4.mono (by first | omega | (simp; omega) | simp))
    have HFL := hide (fun h : (leastCR L).2 = 0 => least_facts h)
    have HZL := hide (leastCR_len L hLl)
    have HIL := hide (fun (W : World) (T : Nat) (h : RC W T BL L) => implLeast_any BL dL T L W h hLl)
    have HSL := hide (fun (W : World) (T : Nat) (h : RC W T BL L) => specLeast_any BL dL T L W h hLl)
    obtain ⟨Z, hZ⟩ : ∃ Z, Z = (leastCR L).1 := ⟨_, rfl⟩
    obtain ⟨vl, hvl⟩ : ∃ v, v = (leastCR L).2 := ⟨_, rfl⟩
    rw [← hvl] at HFL
    rw [← hZ] at HZL
    rw [← hZ, ← hvl] at HIL HSL
    have HZ := hide hZ
    clear hZ hvl
    go_wp2_with fail
    refine (HIL.out _ _ (rL).rc).mono ?_
    rintro e w5 ⟨AZ, cZ, rfl, oZ, hb5⟩
    have a0_5 := (a0_4).below hb5
    have rY_5 := (rY_4).below hb5
    have rV_5 := (rV_4).below hb5
    have rL_5 := (rL).below hb5
    have z_5 : w4.heap.size ≤ w5.heap.size := hb5.size
    have B_5 := (B_4).trans (hb5.mono (by first | omega | (simp; omega) | simp))
    go_wp2_with fail
    refine (HSL.out _ _ (rL_5).rc).mono ?_
    rintro e w6 ⟨AU, cU, rfl, oU, hb6⟩
    have a0_6 := (a0_5).below hb6
    have rY_6 := (rY_5).below hb6
    have rV_6 := (rV_5).below hb6
    have rL_6 := (rL_5).below hb6
    have rZ_6 := (oZ.rd).below hb6
    have z_6 : w5.heap.size ≤ w6.heap.size := hb6.size
    have B_6 := (B_5).trans (hb6.mono (by first | omega | (simp; omega) | simp))
    clear HIL HSL oZ
    go_wp2_with fail
    refine (drawSortCurves_any A0 c0 xs0 _ (a0_6) HB.out hn0).mono ?_
    rintro e w7 ⟨S, BS, dS, rfl, hSb, rS, hb7⟩
    have hSl := (hSb.lenA (by omega) (by omega)).2
    clear hSb
    have a0_7 := (a0_6).below hb7
    have rY_7 := (rY_6).below hb7
    have rV_7 := (rV_6).below hb7
    have rL_7 := (rL_6).below hb7
    have rZ_7 := (rZ_6).below hb7
    have rU_7 := (oU.rd).below hb7
    have z_7 : w6.heap.size ≤ w7.heap.size := hb7.size
    have B_7 := (B_6).trans (hb7.mono (by first | omega | (simp; omega) | simp))
    have HFS := hide (sort_facts S)
    have HIS := hide (fun (W : World) (T : Nat) (h : RC W T BS S) => implSortCurves_any BS dS T S W h hSl)
    have HSS := hide (fun (W : World) (T : Nat) (h : RC W T BS S) => specSortCurves_any BS dS T S W h hSl)
    obtain ⟨T, hT⟩ : ∃ T, T = (sortR S).1 := ⟨_, rfl⟩
    obtain ⟨vs, hvs⟩ : ∃ v, v = (sortR S).2 := ⟨_, rfl⟩
    rw [← hT, ← hvs] at HFS HIS HSS
    clear hT hvs
    go_wp2_with fail
    refine (HIS.out _ _ (rS).rc).mono ?_
    rintro e w8 ⟨AT, cT, rfl, oT, hb8⟩
    have a0_8 := (a0_7).below hb8
    have rY_8 := (rY_7).below hb8
    have rV_8 := (rV_7).below hb8
    have rL_8 := (rL_7).below hb8
    have rZ_8 := (rZ_7).below hb8
    have rU_8 := (rU_7).below hb8
    have rS_8 := (rS).below hb8
    have z_8 : w7.heap.size ≤ w8.heap.size := hb8.size
    have B_8 := (B_7).trans (hb8.mono (by first | omega | (simp; omega) | simp))
    go_wp2_with fail
    refine (HSS.out _ _ (rS_8).rc).mono ?_
    rintro e w9 ⟨AQ, cQ, rfl, oQ, hb9⟩
    have a0_9 := (a0_8).below hb9
    have rY_9 := (rY_8).below hb9
    have rV_9 := (rV_8).below hb9
    have rL_9 := (rL_8).below hb9
    have rZ_9 := (rZ_8).below hb9
    have rU_9 := (rU_8).below hb9
    have rS_9 := (rS_8).below hb9
    have rT_9 := (oT.rd).below hb9
    have z_9 : w8.heap.size ≤ w9.heap.size := hb9.size
    have B_9 := (B_8).trans (hb9.mono (by first | omega | (simp; omega) | simp))
    clear HIS HSS oT
    have q1 : (vb != vb) = false := by simp
    have q2 : (vl != vl) = false := by simp
    have q3 : (vs != vs) = false := by simp
    go_wp2_with fail
    refine (sameV AY AV cY cV _ _ Y _ (rY_9) (rV_9) HFX.out.1).mono ?_
    rintro e w10 ⟨rfl, hb10⟩
    have a0_10 := (a0_9).below hb10
    have rY_10 := (rY_9).below hb10
    have rV_10 := (rV_9).below hb10
    have rL_10 := (rL_9).below hb10
    have rZ_10 := (rZ_9).below hb10
    have rU_10 := (rU_9).below hb10
    have rT_10 := (rT_9).below hb10
    have rQ_10 := (oQ.rd).below hb10
    have z_10 : w9.heap.size ≤ w10.heap.size := hb10.size
    have B_10 := (B_9).trans (hb10.mono (by first | omega | (simp; omega) | simp))
    go_wp2_with fail
    refine (sameV AZ AU cZ cU _ _ Z _ (rZ_10) (rU_10) HZL.out).mono ?_
    rintro e w11 ⟨rfl, hb11⟩
    have a0_11 := (a0_10).below hb11
    have rY_11 := (rY_10).below hb11
    have rL_11 := (rL_10).below hb11
    have rZ_11 := (rZ_10).below hb11
    have rU_11 := (rU_10).below hb11
    have rT_11 := (rT_10).below hb11
    have rQ_11 := (rQ_10).below hb11
    have z_11 : w10.heap.size ≤ w11.heap.size := hb11.size
    have B_11 := (B_10).trans (hb11.mono (by first | omega | (simp; omega) | simp))
    go_wp2_with fail
    refine (sameV AT AQ cT cQ _ _ T _ (rT_11) (rQ_11) HFS.out.1).mono ?_
    rintro e w12 ⟨rfl, hb12⟩
    have a0_12 := (a0_11).below hb12
    have rY_12 := (rY_11).below hb12
    have rL_12 := (rL_11).below hb12
    have rZ_12 := (rZ_11).below hb12
    have rT_12 := (rT_11).below hb12
    have rQ_12 := (rQ_11).below hb12
    have z_12 : w11.heap.size ≤ w12.heap.size := hb12.size
    have B_12 := (B_11).trans (hb12.mono (by first | omega | (simp; omega) | simp))
    go_upto_if 98 with fail
    go_cut [] from 182 to 0 (fun wx => RC wx w2.heap.size AY Y ∧ RC wx w8.heap.size AT T ∧ Below w.heap.size w wx)
    case first =>
      by_cases hv0 : vl = 0
      · subst hv0
        obtain ⟨xs, hLx, hvx, hlz⟩ := HFL.out rfl
        obtain rfl : Z = [leastR xs] := by rw [HZ.out, hlz]
        subst hLx
        have HLV := hide (least_valid hvx)
        have HBK := hide (fun a => back_facts hvx a)
        have HVX := hide hvx
        have hone : [leastR xs].length + sumLen [leastR xs] ≤ 1048576 := HZL.out
        clear hvx hlz
        go_wp2_with fail
        refine (f6roll_any A0 c0 xs0 _ (a0_12) HB.out hn0).mono ?_
        rintro e w13 ⟨rfl, dice, hb13⟩
        go_wp2_with fail
        refine (below20_any _ A0 c0 xs0 _ dice HB.out hn0).mono ?_
        rintro e w14 ⟨a, ha, rfl, hg14⟩
        have hb14 := below_own hb13 hg14 hb13.size (Nat.le_refl _)
        have a0_14 := (a0_12).below hb14
        have rY_14 := (rY_12).below hb14
        have rL_14 := (rL_12).below hb14
        have rZ_14 := (rZ_12).below hb14
        have rT_14 := (rT_12).below hb14
        have z_14 : w12.heap.size ≤ w14.heap.size := hb14.size
        have B_14 := (B_12).trans (hb14.mono (by first | omega | (simp; omega) | simp))
        clear dice hg14
        go_wp2_with fail
        refine (turnOne_any BL dL _ a xs _ (rL_14).rc HVX.out (by omega)).mono ?_
        rintro e w15 ⟨A15, c15, rfl, o15, hb15⟩
        have a0_15 := (a0_14).below hb15
        have rY_15 := (rY_14).below hb15
        have rL_15 := (rL_14).below hb15
        have rZ_15 := (rZ_14).below hb15
        have rT_15 := (rT_14).below hb15
        have z_15 : w14.heap.size ≤ w15.heap.size := hb15.size
        have B_15 := (B_14).trans (hb15.mono (by first | omega | (simp; omega) | simp))
        obtain ⟨t1, ht1⟩ : ∃ t1, t1 = turnL xs (a % xs.length) false := ⟨_, rfl⟩
        have HB2 := hide (HBK.out a)
        rw [← ht1] at HB2 o15
        clear ht1
        go_wp2_with fail
        refine (implBackOne_any A15 c15 _ t1 _ (o15.rd) HB2.out.1).mono ?_
        rintro e w16 ⟨A16, c16, rfl, o16, hb16⟩
        have a0_16 := (a0_15).below hb16
        have rY_16 := (rY_15).below hb16
        have rL_16 := (rL_15).below hb16
        have rZ_16 := (rZ_15).below hb16
        have rT_16 := (rT_15).below hb16
        have r15_16 := (o15.rd).below hb16
        have z_16 : w15.heap.size ≤ w16.heap.size := hb16.size
        have B_16 := (B_15).trans (hb16.mono (by first | omega | (simp; omega) | simp))
        have HL3 := hide (implLeast_any A16 c16 _ [t1.reverse] _ (o16.rd) (by have := valid_sum HB2.out.2.1; omega))
        rw [HB2.out.2.2] at HL3
        go_wp2_with fail
        refine (HL3.out).mono ?_
        rintro e w17 ⟨A17, c17, rfl, o17, hb17⟩
        have a0_17 := (a0_16).below hb17
        have rY_17 := (rY_16).below hb17
        have rL_17 := (rL_16).below hb17
        have rZ_17 := (rZ_16).below hb17
        have rT_17 := (rT_16).below hb17
        have r15_17 := (r15_16).below hb17
        have r16_17 := (o16.rd).below hb17
        have z_17 : w16.heap.size ≤ w17.heap.size := hb17.size
        have B_17 := (B_16).trans (hb17.mono (by first | omega | (simp; omega) | simp))
        go_wp2_with fail
        refine (sameV A17 AZ c17 cZ _ _ [leastR xs] _ (o17.rd) (rZ_17) hone).mono ?_
        rintro e w18 ⟨rfl, hb18⟩
        have a0_18 := (a0_17).below hb18
        have rY_18 := (rY_17).below hb18
        have rL_18 := (rL_17).below hb18
        have rZ_18 := (rZ_17).below hb18
        have rT_18 := (rT_17).below hb18
        have r15_18 := (r15_17).below hb18
        have r16_18 := (r16_17).below hb18
        have r17_18 := (o17.rd).below hb18
        have z_18 : w17.heap.size ≤ w18.heap.size := hb18.size
        have B_18 := (B_17).trans (hb18.mono (by first | omega | (simp; omega) | simp))
        have HVZ := hide (validCode_any AZ cZ _ [leastR xs] _ (rZ_18) hone)
        rw [HLV.out] at HVZ
        go_wp2_with fail
        refine (HVZ.out).mono ?_
        rintro e w19 ⟨rfl, hb19⟩
        have a0_19 := (a0_18).below hb19
        have rY_19 := (rY_18).below hb19
        have rL_19 := (rL_18).below hb19
        have rZ_19 := (rZ_18).below hb19
        have rT_19 := (rT_18).below hb19
        have r15_19 := (r15_18).below hb19
        have r16_19 := (r16_18).below hb19
        have r17_19 := (r17_18).below hb19
        have z_19 : w18.heap.size ≤ w19.heap.size := hb19.size
        have B_19 := (B_18).trans (hb19.mono (by first | omega | (simp; omega) | simp))
        have HF := hide (And.intro (rY_19) (And.intro (rT_19) (B_19)))
        go_wp2_with fail
        go_meet
        exact HF.out
      · have hv1 : (vl == 0) = false := by simpa using hv0
        have HF := hide (And.intro (rY_12) (And.intro (rT_12) (B_12)))
        go_wp2_with fail
        go_meet
        exact HF.out
    case rest =>
      obtain ⟨wa, rfl⟩ : ∃ wa : World, wa = wc := ⟨_, rfl⟩
      obtain ⟨rY, rT, hB⟩ := hcut
      clear HFL HZL HZ q1 q2 q3
      have hzc := hB.size
      go_upto_if 139 with fail
      go_cut [] from 182 to 0 (fun wx => RC wx w2.heap.size AY Y ∧ Below w.heap.size w wx)
      case first =>
        by_cases hv0 : vs = 0
        · obtain ⟨e1, e2, e3⟩ := HFS.out.2 hv0
          have e4 : ((T.length : Int) != (S.length : Int)) = false := by rw [e1]; simp
          have hTl := HFS.out.1
          have HIS := hide (implSortCurves_any AT cT _ T _ (rT) hTl)
          rw [e3] at HIS
          have HVT : Hid (∀ (W : World) (t : Nat), RC W t AT T → Calls Try.prog 17 #[.slice AT T.length cT] W (RetV W (.bool true))) := hide fun W t h => by
            have := validCode_any AT cT t T W h hTl
            rw [e2] at this
            exact this
          have E1 := hide e1
          subst hv0
          clear e1 e2 e3
          go_wp2_with fail
          refine (HIS.out).mono ?_
          rintro e w20 ⟨A20, c20, rfl, o20, hb20⟩
          have rY_20 := (rY).below hb20
          have rT_20 := (rT).below hb20
          have z_20 : wa.heap.size ≤ w20.heap.size := hb20.size
          have B_20 := (hB).trans (hb20.mono (by first | omega | (simp; omega) | simp))
          go_wp2_with fail
          refine (sameV A20 AT c20 cT _ _ T _ (o20.rd) (rT_20) hTl).mono ?_
          rintro e w21 ⟨rfl, hb21⟩
          have rY_21 := (rY_20).below hb21
          have rT_21 := (rT_20).below hb21
          have r20_21 := (o20.rd).below hb21
          have z_21 : w20.heap.size ≤ w21.heap.size := hb21.size
          have B_21 := (B_20).trans (hb21.mono (by first | omega | (simp; omega) | simp))
          go_wp2_with fail
          refine (HVT.out _ _ (rT_21)).mono ?_
          rintro e w22 ⟨rfl, hb22⟩
          have rY_22 := (rY_21).below hb22
          have rT_22 := (rT_21).below hb22
          have r20_22 := (r20_21).below hb22
          have z_22 : w21.heap.size ≤ w22.heap.size := hb22.size
          have B_22 := (B_21).trans (hb22.mono (by first | omega | (simp; omega) | simp))
          have HF := hide (And.intro (rY_22) (B_22))
          go_wp2_with fail
          go_meet
          exact HF.out
        · have hv1 : (vs == 0) = false := by simpa using hv0
          have HF := hide (And.intro (rY) (hB))
          go_wp2_with fail
          go_meet
          exact HF.out
      case rest =>
        clear rY rT hB hzc
        obtain ⟨wd, rfl⟩ : ∃ wd : World, wd = wc := ⟨_, rfl⟩
        obtain ⟨rY, hB⟩ := hcut
        have hzd := hB.size
        by_cases hv0 : vb = 0
        · obtain ⟨e1, e2⟩ := HFX.out.2 hv0
          have hYl := HFX.out.1
          have HIX := hide (implRename_any AY cY _ Y _ (rY) hYl)
          rw [e2] at HIX
          have HVY : Hid (∀ (W : World) (t : Nat), RC W t AY Y → Calls Try.prog 17 #[.slice AY Y.length cY] W (RetV W (.bool true))) := hide fun W t h => by
            have := validCode_any AY cY t Y W h hYl
            rw [e1] at this
            exact this
          subst hv0
          clear e1 e2
          go_wp2_with fail
          refine (HIX.out).mono ?_
          rintro e w23 ⟨A23, c23, rfl, o23, hb23⟩
          have rY_23 := (rY).below hb23
          have z_23 : wd.heap.size ≤ w23.heap.size := hb23.size
          have B_23 := (hB).trans (hb23.mono (by first | omega | (simp; omega) | simp))
          go_wp2_with fail
          refine (sameV A23 AY c23 cY _ _ Y _ (o23.rd) (rY_23) hYl).mono ?_
          rintro e w24 ⟨rfl, hb24⟩
          have rY_24 := (rY_23).below hb24
          have r23_24 := (o23.rd).below hb24
          have z_24 : w23.heap.size ≤ w24.heap.size := hb24.size
          have B_24 := (B_23).trans (hb24.mono (by first | omega | (simp; omega) | simp))
          go_wp2_with fail
          refine (HVY.out _ _ (rY_24)).mono ?_
          rintro e w25 ⟨rfl, hb25⟩
          have rY_25 := (rY_24).below hb25
          have r23_25 := (r23_24).below hb25
          have z_25 : w24.heap.size ≤ w25.heap.size := hb25.size
          have B_25 := (B_24).trans (hb25.mono (by first | omega | (simp; omega) | simp))
          have HBF := hide (B_25)
          go_wp2_with fail
          go_ret
          exact ⟨rfl, HBF.out⟩
        · have hv1 : (vb != 0) = true := by simpa using hv0
          go_wp2_with fail
          go_ret
          exact ⟨rfl, hB⟩
end Go.Proofs.Ytnjojnnapdhijaa
