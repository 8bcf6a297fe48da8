/-
  The walk of the law FnDirections. Conditions: none.
-/
import Derived.Test.YtmjeafklafjakaaDrawPan
import Derived.Test.YtmjeafklafjakaaPanD
import Derived.Test.YtmjeafklafjakaaDirLaw
import Derived.Test.YtmjeafklafjakaaTr14
import Derived.Test.YtmjeafklafjakaaTr19
namespace Go.Proofs.Ytmjeafklafjakaa
open Go.RowKit
set_option linter.unusedVariables false

theorem run_eql_pt (x y : Int) (W : World) : (binOp .eql 41 (.agg #[.int .i64 x, .int .i64 y]) (.agg #[.int .i64 x, .int .i64 y])).run Try.prog W = .ok (.bool true) W := by
  rw [run_eql_struct]
  go_simp
theorem implDirectionsAt_ok {wd ht : Int} {A : Option Addr} {c base : Nat} {xs : List Int} {k : Nat} {w : World} {o u : Wk} (ow : OwnI w base A c xs) (hv : vldPan wd ht xs = true) (hn : xs.length ≤ 1048576) (hk : k < (zTo xs xs.length).length) (h1 : (dirL wd ht xs true)[k]? = some o) (h2 : (dirL wd ht xs false)[k]? = some u) :
    Calls Try.prog 21 #[.agg #[.int .i64 wd, .int .i64 ht, .slice A xs.length c], .int .i64 (k : Int)] w (RetV w (.tuple #[.agg #[.int .i64 o.x, .int .i64 o.y, .int .i64 o.dx, .int .i64 o.dy], .agg #[.int .i64 u.x, .int .i64 u.y, .int .i64 u.dx, .int .i64 u.dy], .int .i64 0])) := by
  have hc : crC wd ht xs (k : Int) = 0 := crC_ok hv (inB_true.2 (by unfold crN; omega))
  have h := implDirectionsAt_any wd ht A c xs (k : Int) w ow.rd ow.cap_ hn
  rw [datR_ok hc h1 h2] at h
  exact h
theorem implSignOf_ok {wd ht : Int} {A : Option Addr} {c base : Nat} {xs : List Int} {k : Nat} {w : World} {t : Int} (ow : OwnI w base A c xs) (hv : vldPan wd ht xs = true) (hn : xs.length ≤ 1048576) (hk : k < (zTo xs xs.length).length) (h1 : (sgL wd ht xs)[k]? = some t) :
    Calls Try.prog 14 #[.agg #[.int .i64 wd, .int .i64 ht, .slice A xs.length c], .int .i64 (k : Int)] w (RetV w (.tuple #[.int .i64 t, .int .i64 0])) := by
  have hc : crC wd ht xs (k : Int) = 0 := crC_ok hv (inB_true.2 (by unfold crN; omega))
  have h := implSignOf_any wd ht A c xs (k : Int) w ow.rd ow.cap_ hn
  rw [signR_ok hc h1] at h
  exact h

set_option maxRecDepth 20000 in
set_option maxHeartbeats 8000000 in
theorem walk_LDirections (w : World) (A0 : Option Addr) (c0 : Nat) (xs0 : List Int) (hx0 : ArgB w A0 c0 xs0) (A1 : Option Addr) (c1 : Nat) (xs1 : List Int) (hx1 : ArgB w A1 c1 xs1) :
    Calls Try.prog 4 #[.slice A0 xs0.length c0, .slice A1 xs1.length c1] w fun e w' => e = .returned (.bool true) ∧ Below w.heap.size w w' := by
  obtain ⟨hl, hm, hr, hb⟩ := hx0
  obtain ⟨hl1, hm1, hr1, hb1⟩ := hx1
  by_cases hlong : (decide (3000 < xs0.length) || decide (3000 < xs1.length)) = true
  · go_enter Try.func4, Try.ntmps4
    go_wp2_with fail
    refine (a2Long_any A0 A1 xs0.length xs1.length c0 c1 w).mono ?_
    rintro e w1 ⟨rfl, rfl⟩
    rw [hlong]
    go_wp2_with fail
    go_ret
    exact ⟨rfl, Below.refl _ _⟩
  · have hd : (decide (3000 < xs0.length) || decide (3000 < xs1.length)) = false := by simpa using hlong
    have hlen : xs0.length ≤ 3000 := by
      simp only [Bool.or_eq_false_iff, decide_eq_false_iff_not] at hd
      omega
    have HB1 := hide hb1
    clear hb1
    go_enter Try.func4, Try.ntmps4
    go_wp2_with fail
    refine (a2Long_any A0 A1 xs0.length xs1.length c0 c1 w).mono ?_
    rintro e w0 ⟨rfl, rfl⟩
    rw [hd]
    go_wp2_with fail
    refine (a2Panel_any A0 c0 xs0 w hr hb (by omega)).mono ?_
    rintro e w1 ⟨wd, ht, ys, B, d, rfl, hv, hw5, hh5, oy, hb1⟩
    have more_1 := (hr1).below hb1
    have z_1 : w.heap.size ≤ w1.heap.size := hb1.size
    have B_1 := (Below.refl w.heap.size w).trans (hb1.mono (by first | omega | (simp; omega) | simp))
    obtain ⟨hs, hly⟩ := vld_sz hv
    have hn : ys.length ≤ 112 := by
      have := inner_bound hs.1 hs.2.1 hs.2.2.1 hs.2.2.2
      omega
    have HV := hide hv
    have HS := hide hs
    have HLY := hide hly
    clear hv hd hlong hl hm hr hb hlen hl1 hm1 hs hly hw5 hh5 hr1
    obtain ⟨pa_x1, pb_x1, pc_x1⟩ := (Bx.new_ w1 (w1.heap.size) 26 #[.int .i64 wd, .int .i64 ht, .slice B ys.length d] (by simp)).three
    go_wp2_with fail
    refine (specCrossingsOf_ok wd ht B d ys _ (((oy).alloc (.cells #[.int .i64 wd, .int .i64 ht, .slice B ys.length d] 26))).rd HV.out (by omega)).mono ?_
    rintro e w2 ⟨X2, e2, rfl, ol, hb2⟩
    have more_2 := ((more_1).alloc (.cells #[.int .i64 wd, .int .i64 ht, .slice B ys.length d] 26)).below hb2
    have oy_2 := ((oy).alloc (.cells #[.int .i64 wd, .int .i64 ht, .slice B ys.length d] 26)).below hb2
    have p_2 := (Bx.new_ w1 (w1.heap.size) 26 #[.int .i64 wd, .int .i64 ht, .slice B ys.length d] (by simp)).below hb2
    obtain ⟨pa_2, pb_2, pc_2⟩ := (p_2).three
    have z_2 : (w1.alloc (.cells #[.int .i64 wd, .int .i64 ht, .slice B ys.length d] 26)).heap.size ≤ w2.heap.size := hb2.size
    simp only [World.size_alloc] at z_2
    have B_2 := ((B_1).alloc (by first | omega | (simp; omega) | simp) (.cells #[.int .i64 wd, .int .i64 ht, .slice B ys.length d] 26)).trans (hb2.mono (by first | omega | (simp; omega) | simp))
    have hzl : (zTo ys ys.length).length ≤ 112 := by have := zTo_len ys ys.length; omega
    by_cases h0 : (zTo ys ys.length).length = 0
    · have e0 : (((zTo ys ys.length).length : Int) == 0) = true := by rw [h0]; rfl
      clear h0
      go_wp2_with fail
      go_ret
      exact ⟨rfl, (B_2)⟩
    ·
      have e0 : (((zTo ys ys.length).length : Int) == 0) = false := by rw [beq_eq_false_iff_ne]; omega
      obtain ⟨zs, hzs⟩ : ∃ zs, zs = zTo ys ys.length := ⟨_, rfl⟩
      rw [← hzs] at hzl h0 e0 ol
      have HD := hide (fun k (hk : k < zs.length) => dirs_law (xs := ys) HS.out HLY.out (k := k) (by rw [← hzs]; exact hk))
      rw [← hzs] at HD ⊢
      have HZS := hide hzs
      clear hzs
      go_wp2_with fail
      refine (a2At_any A1 c1 xs1 0 0 (zs.length : Int) _ (more_2) HB1.out rfl (by omega) (by omega) (by omega)).mono ?_
      rintro e w3 ⟨k0, rfl, hk0, hk1, rfl⟩
      obtain ⟨k, rfl⟩ : ∃ k : Nat, k0 = (k : Int) := ⟨k0.toNat, by omega⟩
      obtain ⟨j, x, y, a, b, cc, dd, s, t, hzk, hj, hpx, hpy, hon, hcr, hd1, hd2, ok1, ok2, hsl, hab, hcd, hsg, hcase⟩ := HD.out k (by omega)
      have hkl : k < (zTo ys ys.length).length := by rw [← HZS.out]; omega
      obtain ⟨g, off, z, hX2, hg2, hz2, hgc⟩ := ol.rd.at_ (k := k) (by omega)
      rw [hzk] at hz2
      injection hz2 with hz2
      subst hz2 hX2
      have HON := hide hon
      have HCR := hide hcr
      have HD1 := hide hd1
      have HD2 := hide hd2
      have HO1 := hide ok1
      have HO2 := hide ok2
      have HSG := hide hsg
      have HSL := hide hsl
      have HPT : Hid (∀ (W : World) (b0 : Nat), OwnI W b0 B d ys → Calls Try.prog 20 #[.agg #[.int .i64 wd, .int .i64 ht, .slice B ys.length d], .int .i64 (j : Int)] W (RetV W (.tuple #[.agg #[.int .i64 x, .int .i64 y], .int .i64 0]))) := hide fun W b0 ho => by
        have := specPointAt_ok wd ht B d ys j W ho.rd HV.out (by omega) hj
        rw [hpx, hpy] at this
        exact this
      have HPA := ok1.1
      have HPB := ok1.2.1
      have HPC := ok2.1
      have HPD := ok2.2.1
      simp only at HPA HPB HPC HPD
      have hsb : s = 1 ∨ s = -1 := by rw [← hsl]; exact slope_pm x
      have hbx : 0 ≤ x ∧ x ≤ 16 ∧ 0 ≤ y ∧ y ≤ 16 := by
        unfold OnP at hon
        obtain ⟨s1, s2, s3, s4⟩ := HS.out
        omega
      have HEQ := fun W => run_eql_pt x y W
      clear hzk hpx hpy hon hcr hd1 hd2 ok1 ok2 hsg hsl e0 h0 HD HLY
      have OY := hide (oy_2)
      have hpd := (p_2)
      obtain ⟨pa_9, pb_9, pc_9⟩ := hpd.drew.three
      have hgc9 : w2.drew.cell? ⟨g, off + k, none⟩ = some (.int .i64 (j : Int)) := hgc
      have hpdA := hpd.alloc (.cells #[.int .i64 0, .int .i64 0] 41)
      obtain ⟨pa_8, pb_8, pc_8⟩ := hpdA.drew.three
      have hgc8 : (w2.alloc (.cells #[.int .i64 0, .int .i64 0] 41)).drew.cell? ⟨g, off + k, none⟩ = some (.int .i64 (j : Int)) := by
        have := (ol.rd.alloc (.cells #[.int .i64 0, .int .i64 0] 41)).at_ (k := k) (by omega)
        obtain ⟨g1, off1, z1, q1, _, q3, q4⟩ := this
        injection q1 with q1
        injection q1 with q1 q2
        subst q1 q2
        obtain ⟨g4, off4, z4, q5, _, q6, q7⟩ := ol.rd.at_ (k := k) (by omega)
        injection q5 with q5
        injection q5 with q5 q8
        subst q5 q8
        rw [q3] at q6
        injection q6 with q6
        subst q6
        rw [hgc] at q7
        rw [show (w2.alloc (.cells #[.int .i64 0, .int .i64 0] 41)).drew.cell? ⟨g, off + k, none⟩ = (w2.alloc (.cells #[.int .i64 0, .int .i64 0] 41)).cell? ⟨g, off + k, none⟩ from rfl, q4, q7]
      go_upto_region 8 with fail
      go_cut [9, 10] (fun s9 s10 wx => ∃ G : Nat, s9 = .pointer (some ⟨G, 0, none⟩) ∧ s10 = .int .i64 0 ∧ w2.heap.size ≤ G ∧ Bx wx G 41 #[.int .i64 x, .int .i64 y] ∧ Below w2.heap.size w2 wx)
      case first =>
        go_region_with
          (first
            | (go_at_call 20; refine (HPT.out _ _ OY.out.drew).mono ?_; rintro e w3 ⟨rfl, hb3⟩; have B3 := (Below.refl w2.heap.size w2).drew.trans hb3)
            | (go_at_call 20; refine (HPT.out _ _ (OY.out.alloc (.cells #[.int .i64 0, .int .i64 0] 41)).drew).mono ?_; rintro e w3 ⟨rfl, hb3⟩; have B3 := ((Below.refl w2.heap.size w2).alloc (Nat.le_refl _) (.cells #[.int .i64 0, .int .i64 0] 41)).drew.trans (hb3.mono (by simp)); have box3 := (Bx.new w2 41 #[.int .i64 0, .int .i64 0]).drew.below hb3; obtain ⟨ba3, bb3⟩ := box3.two; have bf3 := box3.frozen 0; have bg3 := box3.frozen 1))
        all_goals go_wp2_with fail
        all_goals go_meet
        all_goals first
          | exact ⟨w2.heap.size, rfl, rfl, Nat.le_refl _, (box3.set_ 0 _).set_ 1 _, (B3.setCell (Nat.le_refl _) _).setCell (Nat.le_refl _) _⟩
          | exact ⟨w3.heap.size, rfl, rfl, B3.size, Bx.new _ _ _, B3.alloc B3.size _⟩
      case rest =>
        obtain ⟨G, rfl, rfl, hG, bq, hb3⟩ := hcut
        obtain ⟨w3, rfl⟩ : ∃ w3 : World, w3 = wc := ⟨_, rfl⟩
        clear pa_9 pb_9 pc_9 pa_8 pb_8 pc_8 hgc8 hgc9 hgc hpd hpdA HPT OY
        have more_3 := (more_2).below hb3
        have oy_3 := (oy_2).below hb3
        have p_3 := (p_2).below hb3
        obtain ⟨pa_3, pb_3, pc_3⟩ := (p_3).three
        have ol_3 := (ol).below hb3
        have z_3 : w2.heap.size ≤ w3.heap.size := hb3.size
        have B_3 := (B_2).trans (hb3.mono (by first | omega | (simp; omega) | simp))
        obtain ⟨qa_3, qb_3⟩ := ((bq)).two
        have HVW1 : Hid (∀ (W : World) (b0 : Nat), OwnI W b0 B d ys → Calls Try.prog 23 #[.agg #[.int .i64 wd, .int .i64 ht, .slice B ys.length d], .agg #[.int .i64 x, .int .i64 y, .int .i64 a, .int .i64 b]] W (RetV W (.bool true))) := hide fun W b0 ho =>
          specValidWalker_ok wd ht ⟨x, y, a, b⟩ B d ys W ho.rd HV.out (by omega) HO1.out
        have HVW2 : Hid (∀ (W : World) (b0 : Nat), OwnI W b0 B d ys → Calls Try.prog 23 #[.agg #[.int .i64 wd, .int .i64 ht, .slice B ys.length d], .agg #[.int .i64 x, .int .i64 y, .int .i64 cc, .int .i64 dd]] W (RetV W (.bool true))) := hide fun W b0 ho =>
          specValidWalker_ok wd ht ⟨x, y, cc, dd⟩ B d ys W ho.rd HV.out (by omega) HO2.out
        have HDA : Hid (∀ (W : World) (b0 : Nat), OwnI W b0 B d ys → Calls Try.prog 21 #[.agg #[.int .i64 wd, .int .i64 ht, .slice B ys.length d], .int .i64 (k : Int)] W (RetV W (.tuple #[.agg #[.int .i64 x, .int .i64 y, .int .i64 a, .int .i64 b], .agg #[.int .i64 x, .int .i64 y, .int .i64 cc, .int .i64 dd], .int .i64 0]))) := hide fun W b0 ho =>
          implDirectionsAt_ok ho HV.out (by omega) hkl HD1.out HD2.out
        have HOS : Hid (∀ (W : World) (b0 : Nat), OwnI W b0 B d ys → Calls Try.prog 22 #[.agg #[.int .i64 wd, .int .i64 ht, .slice B ys.length d], .agg #[.int .i64 x, .int .i64 y]] W (RetV W (.tuple #[.int .i64 s, .int .i64 0]))) := hide fun W b0 ho => by
          rw [← HSL.out]
          exact specOverSlope_ok wd ht x y B d ys W ho.rd HV.out (by omega) HON.out HCR.out
        have HSI : Hid (∀ (W : World) (b0 : Nat), OwnI W b0 B d ys → Calls Try.prog 14 #[.agg #[.int .i64 wd, .int .i64 ht, .slice B ys.length d], .int .i64 (k : Int)] W (RetV W (.tuple #[.int .i64 t, .int .i64 0]))) := hide fun W b0 ho =>
          implSignOf_ok ho HV.out (by omega) hkl HSG.out
        have hsn : IntKind.i64.wrap (-s) = -s := by rw [IntKind.wrap_i64]; omega
        clear HO1 HO2 HD1 HD2 HON HCR HSL HSG hkl
        go_wp2_with fail
        refine (HDA.out _ _ (oy_3)).mono ?_
        rintro e w4 ⟨rfl, hb4⟩
        have oy_4 := (oy_3).below hb4
        have p_4 := (p_3).below hb4
        obtain ⟨pa_4, pb_4, pc_4⟩ := (p_4).three
        have q_4 := (bq).below hb4
        have z_4 : w3.heap.size ≤ w4.heap.size := hb4.size
        have B_4 := (B_3).trans (hb4.mono (by first | omega | (simp; omega) | simp))
        obtain ⟨pa_x2, pb_x2, pc_x2⟩ := (((p_4).alloc (.cells #[.int .i64 x, .int .i64 y, .int .i64 a, .int .i64 b] 45)).alloc (.cells #[.int .i64 x, .int .i64 y, .int .i64 cc, .int .i64 dd] 45)).three
        obtain ⟨oa_x2, ob_x2, oc_x2, od_x2⟩ := ((Bx.new_ w4 (w4.heap.size) 45 #[.int .i64 x, .int .i64 y, .int .i64 a, .int .i64 b] (by simp)).alloc (.cells #[.int .i64 x, .int .i64 y, .int .i64 cc, .int .i64 dd] 45)).four
        obtain ⟨ua_x2, ub_x2, uc_x2, ud_x2⟩ := (Bx.new_ (w4.alloc (.cells #[.int .i64 x, .int .i64 y, .int .i64 a, .int .i64 b] 45)) (w4.heap.size + 1) 45 #[.int .i64 x, .int .i64 y, .int .i64 cc, .int .i64 dd] (by simp)).four
        go_wp2_with fail
        refine (HSI.out _ _ (((oy_4).alloc (.cells #[.int .i64 x, .int .i64 y, .int .i64 a, .int .i64 b] 45)).alloc (.cells #[.int .i64 x, .int .i64 y, .int .i64 cc, .int .i64 dd] 45))).mono ?_
        rintro e w5 ⟨rfl, hb5⟩
        have oy_5 := (((oy_4).alloc (.cells #[.int .i64 x, .int .i64 y, .int .i64 a, .int .i64 b] 45)).alloc (.cells #[.int .i64 x, .int .i64 y, .int .i64 cc, .int .i64 dd] 45)).below hb5
        have p_5 := (((p_4).alloc (.cells #[.int .i64 x, .int .i64 y, .int .i64 a, .int .i64 b] 45)).alloc (.cells #[.int .i64 x, .int .i64 y, .int .i64 cc, .int .i64 dd] 45)).below hb5
        obtain ⟨pa_5, pb_5, pc_5⟩ := (p_5).three
        have q_5 := (((q_4).alloc (.cells #[.int .i64 x, .int .i64 y, .int .i64 a, .int .i64 b] 45)).alloc (.cells #[.int .i64 x, .int .i64 y, .int .i64 cc, .int .i64 dd] 45)).below hb5
        have o_5 := ((Bx.new_ w4 (w4.heap.size) 45 #[.int .i64 x, .int .i64 y, .int .i64 a, .int .i64 b] (by simp)).alloc (.cells #[.int .i64 x, .int .i64 y, .int .i64 cc, .int .i64 dd] 45)).below hb5
        obtain ⟨oa_5, ob_5, oc_5, od_5⟩ := (o_5).four
        have u_5 := (Bx.new_ (w4.alloc (.cells #[.int .i64 x, .int .i64 y, .int .i64 a, .int .i64 b] 45)) (w4.heap.size + 1) 45 #[.int .i64 x, .int .i64 y, .int .i64 cc, .int .i64 dd] (by simp)).below hb5
        obtain ⟨ua_5, ub_5, uc_5, ud_5⟩ := (u_5).four
        have z_5 : ((w4.alloc (.cells #[.int .i64 x, .int .i64 y, .int .i64 a, .int .i64 b] 45)).alloc (.cells #[.int .i64 x, .int .i64 y, .int .i64 cc, .int .i64 dd] 45)).heap.size ≤ w5.heap.size := hb5.size
        simp only [World.size_alloc] at z_5
        have B_5 := (((B_4).alloc (by first | omega | (simp; omega) | simp) (.cells #[.int .i64 x, .int .i64 y, .int .i64 a, .int .i64 b] 45)).alloc (by first | omega | (simp; omega) | simp) (.cells #[.int .i64 x, .int .i64 y, .int .i64 cc, .int .i64 dd] 45)).trans (hb5.mono (by first | omega | (simp; omega) | simp))
        obtain ⟨qa_5, qb_5⟩ := ((q_5)).two
        go_wp2_with fail
        refine (HOS.out _ _ (oy_5)).mono ?_
        rintro e w6 ⟨rfl, hb6⟩
        have oy_6 := (oy_5).below hb6
        have p_6 := (p_5).below hb6
        obtain ⟨pa_6, pb_6, pc_6⟩ := (p_6).three
        have q_6 := (q_5).below hb6
        have o_6 := (o_5).below hb6
        obtain ⟨oa_6, ob_6, oc_6, od_6⟩ := (o_6).four
        have u_6 := (u_5).below hb6
        obtain ⟨ua_6, ub_6, uc_6, ud_6⟩ := (u_6).four
        have z_6 : w5.heap.size ≤ w6.heap.size := hb6.size
        have B_6 := (B_5).trans (hb6.mono (by first | omega | (simp; omega) | simp))
        rcases hcase with ⟨h1, h2, rfl⟩ | ⟨h1, h2, rfl⟩
        all_goals
          go_wp2_with fail
          refine (HVW1.out _ _ (oy_6)).mono ?_
          rintro e w7 ⟨rfl, hb7⟩
          have oy_7 := (oy_6).below hb7
          have p_7 := (p_6).below hb7
          obtain ⟨pa_7, pb_7, pc_7⟩ := (p_7).three
          have q_7 := (q_6).below hb7
          have o_7 := (o_6).below hb7
          obtain ⟨oa_7, ob_7, oc_7, od_7⟩ := (o_7).four
          have u_7 := (u_6).below hb7
          obtain ⟨ua_7, ub_7, uc_7, ud_7⟩ := (u_7).four
          have z_7 : w6.heap.size ≤ w7.heap.size := hb7.size
          have B_7 := (B_6).trans (hb7.mono (by first | omega | (simp; omega) | simp))
          obtain ⟨qa_7, qb_7⟩ := ((q_7)).two
          go_wp2_with fail
          refine (HVW2.out _ _ (oy_7)).mono ?_
          rintro e w8 ⟨rfl, hb8⟩
          have oy_8 := (oy_7).below hb8
          have p_8 := (p_7).below hb8
          obtain ⟨pa_8, pb_8, pc_8⟩ := (p_8).three
          have q_8 := (q_7).below hb8
          have o_8 := (o_7).below hb8
          obtain ⟨oa_8, ob_8, oc_8, od_8⟩ := (o_8).four
          have u_8 := (u_7).below hb8
          obtain ⟨ua_8, ub_8, uc_8, ud_8⟩ := (u_8).four
          have z_8 : w7.heap.size ≤ w8.heap.size := hb8.size
          have B_8 := (B_7).trans (hb8.mono (by first | omega | (simp; omega) | simp))
          obtain ⟨qa_8, qb_8⟩ := ((q_8)).two
          go_wp2_with fail
          go_ret
          exact ⟨by simp, (B_8)⟩
end Go.Proofs.Ytmjeafklafjakaa
