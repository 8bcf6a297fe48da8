/-
  The walk of the law FnSigns. Conditions: none.
-/
import Derived.Test.YtmjeafklafjakaaDrawPan
import Derived.Test.YtmjeafklafjakaaSignLaw
import Derived.Test.YtmjeafklafjakaaTab
namespace Go.Proofs.Ytmjeafklafjakaa
open Go.RowKit
set_option linter.unusedVariables false

set_option maxRecDepth 40000 in
set_option maxHeartbeats 16000000 in
theorem walk_LSigns (w : World) (A0 : Option Addr) (c0 : Nat) (xs0 : List Int) (hx0 : ArgB w A0 c0 xs0) :
    Calls Try.prog 3 #[.slice A0 xs0.length c0] w fun e w' => e = .returned (.bool true) ∧ Below w.heap.size w w' := by
  obtain ⟨hl, hm, hr, hb⟩ := hx0
  by_cases hlong : 3000 < xs0.length
  · have hd := decide_eq_true hlong
    go_enter Try.func3, Try.ntmps3
    go_wp2_with fail
    refine (a2Long_any A0 none xs0.length 0 c0 0 w).mono ?_
    rintro e w1 ⟨rfl, rfl⟩
    rw [hd]
    go_wp2_with fail
    go_ret
    exact ⟨rfl, Below.refl _ _⟩
  · have hd := decide_eq_false hlong
    have hd0 : decide (3000 < (0 : Nat)) = false := rfl
    go_enter Try.func3, Try.ntmps3
    go_wp2_with fail
    refine (a2Long_any A0 none xs0.length 0 c0 0 w).mono ?_
    rintro e w0 ⟨rfl, rfl⟩
    rw [hd, hd0]
    go_wp2_with fail
    refine (a2Panel_any A0 c0 xs0 w hr hb (by omega)).mono ?_
    rintro e w1 ⟨wd, ht, ys, B, d, rfl, hv, hw5, hh5, oy, hb1⟩
    have z_1 : w.heap.size ≤ w1.heap.size := hb1.size
    have B_1 := (Below.refl w.heap.size w).trans (hb1.mono (by first | omega | (simp; omega) | simp))
    obtain ⟨hs, hly⟩ := vld_sz hv
    have hn : ys.length ≤ 112 := by
      have := inner_bound hs.1 hs.2.1 hs.2.2.1 hs.2.2.2
      omega
    have hn2 : ys.length ≤ 200 := by omega
    have hn3 : ys.length ≤ 1048576 := by omega
    have hcn := cvN_le hv
    have hzl := zTo_len ys ys.length
    have hsl := sgL_len (xs := ys) hs hly
    have HSG := hide (And.intro (fun (W : World) (b0 : Nat) (ho : OwnI W b0 B d ys) => by
      have h := implSignsOf_any wd ht B d ys W ho.rd ho.cap_ hn3
      rw [signsR_ok hv] at h
      exact h : ∀ (W : World) (b0 : Nat), OwnI W b0 B d ys → Calls Try.prog 7 #[.agg #[.int .i64 wd, .int .i64 ht, .slice B ys.length d]] W (RetIC W (sgL wd ht ys) 0)) (fun x (hx : x ∈ sgL wd ht ys) => sgL_pm hx))
    have HWR : Hid (∀ (W : World) (b0 : Nat), OwnI W b0 B d ys → Calls Try.prog 8 #[.agg #[.int .i64 wd, .int .i64 ht, .slice B ys.length d]] W (RetV W (.tuple #[.int .i64 (sumW (sgL wd ht ys)), .int .i64 0]))) := hide fun W b0 ho => by
      have h := implWritheOf_any wd ht B d ys W ho.rd ho.cap_ hn3
      rw [writheR_ok hv] at h
      exact h
    have HTB : Hid (∀ (W : World) (b0 : Nat), OwnI W b0 B d ys → Calls Try.prog 9 #[.agg #[.int .i64 wd, .int .i64 ht, .slice B ys.length d]] W (RetCC W (tabH wd ht ys) 0)) := hide fun W b0 ho => by
      have h := implLinkingTable_any wd ht B d ys W ho.rd ho.cap_ hn3
      rw [lktR_ok hv] at h
      exact h
    have HTO : Hid (∀ (W : World) (b0 : Nat), OwnI W b0 B d ys → Calls Try.prog 10 #[.agg #[.int .i64 wd, .int .i64 ht, .slice B ys.length d]] W (RetV W (.tuple #[.int .i64 (totT wd ht ys (cvN wd ht ys)), .int .i64 0]))) := hide fun W b0 ho => by
      have h := implTotalLinking_any wd ht B d ys W ho.rd ho.cap_ hn3
      rw [ttlR_ok hv] at h
      exact h
    have HCC : Hid (∀ (W : World) (b0 : Nat), OwnI W b0 B d ys → Calls Try.prog 11 #[.agg #[.int .i64 wd, .int .i64 ht, .slice B ys.length d]] W (RetV W (.tuple #[.int .i64 (cvN wd ht ys : Int), .int .i64 0]))) := hide fun W b0 ho =>
      specCountCurves_ok wd ht B d ys W ho.rd hv hn3
    have HCB : Hid (∀ (W : World) (b0 : Nat), OwnI W b0 B d ys → Calls Try.prog 12 #[.agg #[.int .i64 wd, .int .i64 ht, .slice B ys.length d], .int .i64 0] W (RetV W (.tuple #[.int .i64 ((sgL wd ht ys).length : Int), .int .i64 0]))) := hide fun W b0 ho => by
      rw [hsl]
      exact specCountBreaks_ok wd ht B d ys W ho.rd hv hn3
    have HSI : Hid (∀ (k : Nat) (t : Int) (W : World) (b0 : Nat), (sgL wd ht ys)[k]? = some t → OwnI W b0 B d ys → Calls Try.prog 14 #[.agg #[.int .i64 wd, .int .i64 ht, .slice B ys.length d], .int .i64 (k : Int)] W (RetV W (.tuple #[.int .i64 t, .int .i64 0]))) := hide fun k t W b0 ht2 ho => by
      have hk : k < crN ys := by
        have := (List.getElem?_eq_some_iff.1 ht2).1
        rw [hsl] at this
        exact this
      have h := implSignOf_any wd ht B d ys (k : Int) W ho.rd ho.cap_ hn3
      rw [signR_ok (crC_ok hv (inB_true.2 (by omega))) ht2] at h
      exact h
    have HOW : Hid (∀ (a : Nat) (W : World) (b0 : Nat), a < cvN wd ht ys → OwnI W b0 B d ys → Calls Try.prog 15 #[.agg #[.int .i64 wd, .int .i64 ht, .slice B ys.length d], .int .i64 (a : Int)] W (RetV W (.tuple #[.int .i64 (lkN wd ht ys a a), .int .i64 0]))) := hide fun a W b0 ha ho => by
      have h := implOwnWrithe_any wd ht B d ys (a : Int) W ho.rd ho.cap_ hn3
      rw [ownR_ok (cvC_ok hv (by simp [inB_true]; omega))] at h
      exact h
    have HLN : Hid (∀ (a b : Nat) (W : World) (b0 : Nat), a < cvN wd ht ys → b < a → OwnI W b0 B d ys → Calls Try.prog 16 #[.agg #[.int .i64 wd, .int .i64 ht, .slice B ys.length d], .int .i64 (a : Int), .int .i64 (b : Int)] W (RetV W (.tuple #[.int .i64 (hlf wd ht ys a b), .int .i64 0]))) := hide fun a b W b0 ha hb ho => by
      have h := implLinkingNumber_any wd ht B d ys (a : Int) (b : Int) W ho.rd ho.cap_ hn3
      rw [lnkR_ok (cvC_ok hv (by simp [inB_true]; omega)) (by omega)] at h
      rw [(hlf_two hv (show a ≠ b by omega)).2]
      exact h
    have HCM : Hid (∀ (a b : Nat) (W : World) (b0 : Nat), a < cvN wd ht ys → b < a → OwnI W b0 B d ys → Calls Try.prog 17 #[.agg #[.int .i64 wd, .int .i64 ht, .slice B ys.length d], .int .i64 (a : Int), .int .i64 (b : Int)] W (RetV W (.tuple #[.int .i64 (comTo wd ht ys a b ys.length), .int .i64 0]))) := hide fun a b W b0 ha hb ho =>
      specCommonCrossings_ok wd ht B d ys a b W ho.rd hv hn2 ha (by omega) (by omega)
    have HCL := hide (fun (a b : Nat) (h : b < a) => com_le hv (show a ≠ b by omega))
    have HCX := hide (fun (a b : Nat) => comTo_bound (wd := wd) (ht := ht) (xs := ys) a b ys.length)
    have HHB := hide (fun (a b : Nat) => hlf_b (wd := wd) (ht := ht) hn2 a b)
    have HLB := hide (fun (a b : Nat) => lkN_b (wd := wd) (ht := ht) hn2 a b)
    have HRN := hide (fun (a b : Nat) (h : b < a) => sgnRow_next hv h)
    have HTOB := hide (fun (a : Nat) (h : a ≤ 256) => sgnTo_b (wd := wd) (ht := ht) hn2 a h)
    have HRWB := hide (fun (a b : Nat) (h : a ≤ 256) (h2 : b ≤ 256) => sgnRow_b (wd := wd) (ht := ht) hn2 a b h h2)
    have HTT := hide (fun (a : Nat) (h : a ≤ 256) => totT_bound (wd := wd) (ht := ht) hn3 a h)
    have HRT := hide (fun (a b : Nat) => rowT_bound (wd := wd) (ht := ht) a hn3 b)
    have HEND := hide (sgn_end hv)
    have hsl2 : (sgL wd ht ys).length ≤ 112 := by omega
    obtain ⟨sg, hsg⟩ : ∃ sg, sg = sgL wd ht ys := ⟨_, rfl⟩
    rw [← hsg] at HSG HWR HCB HEND hsl2
    have HSI2 : Hid (∀ (k : Nat) (t : Int) (W : World) (b0 : Nat), sg[k]? = some t → OwnI W b0 B d ys → Calls Try.prog 14 #[.agg #[.int .i64 wd, .int .i64 ht, .slice B ys.length d], .int .i64 (k : Int)] W (RetV W (.tuple #[.int .i64 t, .int .i64 0]))) := by
      rw [hsg]
      exact HSI
    obtain ⟨N, hN⟩ : ∃ N, N = cvN wd ht ys := ⟨_, rfl⟩
    have HTL : Hid (tabH wd ht ys = tab N (hlf wd ht ys)) := hide (by rw [hN]; rfl)
    rw [← hN] at HTO HCC HOW HLN HCM HEND hcn
    have HTLN : Hid ((tabH wd ht ys).length = N) := hide (by rw [HTL.out, tab_len])
    obtain ⟨V, hV⟩ : ∃ V, V = sumW sg := ⟨_, rfl⟩
    have HSM : Hid (∀ (A : Option Addr) (c : Nat) (W : World), RI W A sg → Calls Try.prog 13 #[.slice A sg.length c] W fun e w' => e = .returned (.int .i64 V) ∧ W = w') := hide fun A c W h => by
      rw [hV]
      exact a2Sum_any A c sg W h (by omega)
    rw [← hV] at HWR HEND
    obtain ⟨T, hT⟩ : ∃ T, T = totT wd ht ys N := ⟨_, rfl⟩
    rw [← hT] at HTO
    have HT := hide hT
    clear hv hd hd0 hlong hl hm hr hb hs hly hw5 hh5 hsl hzl hsg hN hV hT HSI
    obtain ⟨pa_x1, pb_x1, pc_x1⟩ := (Bx.new_ w1 (w1.heap.size) 26 #[.int .i64 wd, .int .i64 ht, .slice B ys.length d] (by simp)).three
    go_wp2_with fail
    refine (HSG.out.1 _ _ ((oy).alloc (.cells #[.int .i64 wd, .int .i64 ht, .slice B ys.length d] 26))).mono ?_
    rintro e w2 ⟨X2, e2, rfl, os, hb2⟩
    have oy_2 := ((oy).alloc (.cells #[.int .i64 wd, .int .i64 ht, .slice B ys.length d] 26)).below hb2
    have p_2 := (Bx.new_ w1 (w1.heap.size) 26 #[.int .i64 wd, .int .i64 ht, .slice B ys.length d] (by simp)).below hb2
    obtain ⟨pa_2, pb_2, pc_2⟩ := (p_2).three
    have z_2 : (w1.alloc (.cells #[.int .i64 wd, .int .i64 ht, .slice B ys.length d] 26)).heap.size ≤ w2.heap.size := hb2.size
    simp only [World.size_alloc] at z_2
    have B_2 := ((B_1).alloc (by first | omega | (simp; omega) | simp) (.cells #[.int .i64 wd, .int .i64 ht, .slice B ys.length d] 26)).trans (hb2.mono (by first | omega | (simp; omega) | simp))
    go_wp2_with fail
    refine (HWR.out _ _ (oy_2)).mono ?_
    rintro e w3 ⟨rfl, hb3⟩
    have oy_3 := (oy_2).below hb3
    have p_3 := (p_2).below hb3
    obtain ⟨pa_3, pb_3, pc_3⟩ := (p_3).three
    have os_3 := (os).below hb3
    have z_3 : w2.heap.size ≤ w3.heap.size := hb3.size
    have B_3 := (B_2).trans (hb3.mono (by first | omega | (simp; omega) | simp))
    go_wp2_with fail
    refine (HTB.out _ _ (oy_3)).mono ?_
    rintro e w4 ⟨X4, e4, rfl, ot, hb4⟩
    rw [HTL.out] at ot
    rw [HTLN.out]
    have oy_4 := (oy_3).below hb4
    have p_4 := (p_3).below hb4
    obtain ⟨pa_4, pb_4, pc_4⟩ := (p_4).three
    have os_4 := (os_3).below hb4
    have z_4 : w3.heap.size ≤ w4.heap.size := hb4.size
    have B_4 := (B_3).trans (hb4.mono (by first | omega | (simp; omega) | simp))
    go_wp2_with fail
    refine (HTO.out _ _ (oy_4)).mono ?_
    rintro e w5 ⟨rfl, hb5⟩
    have oy_5 := (oy_4).below hb5
    have p_5 := (p_4).below hb5
    obtain ⟨pa_5, pb_5, pc_5⟩ := (p_5).three
    have os_5 := (os_4).below hb5
    have ot_5 := (ot).below hb5
    have z_5 : w4.heap.size ≤ w5.heap.size := hb5.size
    have B_5 := (B_4).trans (hb5.mono (by first | omega | (simp; omega) | simp))
    go_wp2_with fail
    refine (HCC.out _ _ (oy_5)).mono ?_
    rintro e w6 ⟨rfl, hb6⟩
    have oy_6 := (oy_5).below hb6
    have p_6 := (p_5).below hb6
    obtain ⟨pa_6, pb_6, pc_6⟩ := (p_6).three
    have os_6 := (os_5).below hb6
    have ot_6 := (ot_5).below hb6
    have z_6 : w5.heap.size ≤ w6.heap.size := hb6.size
    have B_6 := (B_5).trans (hb6.mono (by first | omega | (simp; omega) | simp))
    go_wp2_with fail
    refine (HCB.out _ _ (oy_6)).mono ?_
    rintro e w7 ⟨rfl, hb7⟩
    have oy_7 := (oy_6).below hb7
    have p_7 := (p_6).below hb7
    obtain ⟨pa_7, pb_7, pc_7⟩ := (p_7).three
    have os_7 := (os_6).below hb7
    have ot_7 := (ot_6).below hb7
    have z_7 : w6.heap.size ≤ w7.heap.size := hb7.size
    have B_7 := (B_6).trans (hb7.mono (by first | omega | (simp; omega) | simp))
    have OS7 := hide (os_7)
    have hsg1 : ((sg.length : Int) != (sg.length : Int)) = false := by simp
    have hsg2 : (V != V) = false := by simp
    have hsg3 : ((N : Int) != (N : Int)) = false := by simp
    have OY := hide (oy_7)
    have OT := hide (ot_7)
    have PP := hide (p_7)
    have BB := hide (B_7)
    go_wp2_with (go_at_call 13; refine (HSM.out _ _ _ OS7.out.rd).mono ?_; rintro e w' ⟨rfl, rfl⟩)
    clear p_2 p_3 p_4 p_5 p_6 p_7 oy_2 oy_3 oy_4 oy_5 oy_6 oy_7 ot_5 ot_6 ot_7 os_3 os_4 os_5 os_6 os_7
    go_loopw [16] (fun k wr => ∃ (i : Nat), i ≤ sg.length ∧ k = .int .i64 (i : Int) ∧ Below w7.heap.size w7 wr) (fun k _ => sg.length - (intOf k).toNat)
    case atStart => exact ⟨0, Nat.zero_le _, rfl, Below.refl _ _⟩
    case round =>
      obtain ⟨k, hk, rfl, hB⟩ := hrel
      obtain ⟨wa, rfl⟩ : ∃ wa, wa = wr := ⟨_, rfl⟩
      have hpb := PP.out.below hB
      obtain ⟨qa, qb, qc⟩ := hpb.three
      by_cases hlt : k < sg.length
      · obtain ⟨x, hx⟩ : ∃ x, sg[k]? = some x := ⟨_, List.getElem?_eq_getElem hlt⟩
        have HS := hide (HSI2.out k x wa _ hx (OY.out.below hB))
        have hpm := HSG.out.2 x (List.mem_of_getElem? hx)
        go_wp2_with fail
        refine HS.out.mono ?_
        rintro e w8 ⟨rfl, hb8⟩
        have B8 := hB.trans (hb8.mono hB.size)
        obtain ⟨g, off, v, hX2, hg2, hv2, hc2⟩ := (OS7.out.below B8).rd.at_ hlt
        rw [hx] at hv2
        injection hv2 with hv2
        subst hv2 hX2
        have hne : (x != x) = false := by simp
        clear hx
        rcases hpm with rfl | rfl
        · go_wp2_with fail
          go_roundw
          case rel => exact ⟨k + 1, by omega, by go_num, B8⟩
          case measure => simp [intOf]; omega
        · go_wp2_with fail
          go_roundw
          case rel => exact ⟨k + 1, by omega, by go_num, B8⟩
          case measure => simp [intOf]; omega
      · obtain ⟨wa0, rfl⟩ : ∃ wa0, wa0 = wa := ⟨_, rfl⟩
        clear qa qb qc hpb
        go_wp2_with fail
        go_loopw [19, 20, 21] (fun s19 s20 s21 wr => ∃ (a : Nat) (S L : Int), a ≤ N ∧ s21 = .int .i64 (a : Int) ∧ s19 = .int .i64 S ∧ s20 = .int .i64 L ∧ Hid (S = sgnTo wd ht ys a) ∧ Hid (L = totT wd ht ys a) ∧ Below w7.heap.size w7 wr) (fun _ _ s21 _ => N - (intOf s21).toNat)
        case atStart => exact ⟨0, 0, 0, Nat.zero_le _, rfl, rfl, rfl, hide rfl, hide rfl, hB⟩
        case round =>
          clear hB
          obtain ⟨a, S, L, ha, rfl, rfl, rfl, hS, hL, hB⟩ := hrel
          have hSb := HTOB.out a (by omega)
          have hLb := HTT.out a (by omega)
          rw [← hS.out] at hSb
          rw [← hL.out] at hLb
          by_cases hlta : a < N
          · obtain ⟨wb, rfl⟩ : ∃ wb, wb = wr := ⟨_, rfl⟩
            have hpb := PP.out.below hB
            obtain ⟨qa, qb, qc⟩ := hpb.three
            have HO := hide (HOW.out a wb _ hlta (OY.out.below hB))
            have hob := HLB.out a a
            have HRW : Hid (S + lkN wd ht ys a a = sgnRow wd ht ys a 0) := hide (by rw [hS.out]; unfold sgnRow; show _ = _ + (0 : Int); omega)
            obtain ⟨O, hO⟩ : ∃ O, O = lkN wd ht ys a a := ⟨_, rfl⟩
            rw [← hO] at HO hob HRW
            clear hO
            go_wp2_with fail
            refine HO.out.mono ?_
            rintro e w8 ⟨rfl, hb8⟩
            have B8 := hB.trans (hb8.mono hB.size)
            obtain ⟨g, C, dd, hX4, hg1, hg2, hC1, hC2, hgC, hcr, hcv, hcf, _⟩ := (OT.out.below B8).tabAt (a := a) (b := a) hlta hlta
            subst hX4
            rw [hlf_diag] at hcv
            have hwS : IntKind.i64.wrap (S + O) = S + O := by rw [IntKind.wrap_i64]; omega
            clear hpb qa qb qc
            go_wp2_with fail
            clear hcr hcv hcf
            obtain ⟨S1, hS1⟩ : ∃ S1, S1 = S + O := ⟨_, rfl⟩
            rw [← hS1] at HRW ⊢
            clear hS1
            go_loopw [19, 20, 24] (fun s19 s20 s24 wr => ∃ (b : Nat) (S2 L2 : Int), b ≤ a ∧ s24 = .int .i64 (b : Int) ∧ s19 = .int .i64 S2 ∧ s20 = .int .i64 L2 ∧ Hid (S2 = sgnRow wd ht ys a b) ∧ Hid (L2 = totT wd ht ys a + rowT wd ht ys a b) ∧ Below w7.heap.size w7 wr) (fun _ _ s24 _ => a - (intOf s24).toNat)
            case atStart => exact ⟨0, S1, L, Nat.zero_le _, rfl, rfl, rfl, HRW, hide (by rw [hL.out]; show _ = _ + (0 : Int); omega), B8⟩
            case round =>
              clear B8 hb8 HO HRW hB
              obtain ⟨b, S2, L2, hb, rfl, rfl, rfl, hS2, hL2, hB⟩ := hrel
              have hSb2 := HRWB.out a b (by omega) (by omega)
              have hRb := HRT.out a b
              have hLb2 : 0 ≤ L2 ∧ L2 ≤ 1000000000000 := by
                have h1 := hL2.out
                have h2 := HTT.out a (by omega)
                have h3 : (b : Int) ≤ 256 := by omega
                have h4 : (a : Int) ≤ 256 := by omega
                omega
              rw [← hS2.out] at hSb2
              clear hRb
              by_cases hltb : b < a
              · obtain ⟨wc2, rfl⟩ : ∃ wc2, wc2 = wr := ⟨_, rfl⟩
                have hpb := PP.out.below hB
                obtain ⟨qa, qb, qc⟩ := hpb.three
                have HL1 := hide (HLN.out a b wc2 _ hlta hltb (OY.out.below hB))
                have HC1 := hide (fun (W : World) (h : Below w7.heap.size w7 W) => HCM.out a b W _ hlta hltb (OY.out.below h))
                have hXb := HHB.out a b
                have hcl := HCL.out a b hltb
                have hcx := HCX.out a b
                have HRX := hide (HRN.out a b hltb)
                have HTX : Hid (rowT wd ht ys a (b + 1) = rowT wd ht ys a b + max (hlf wd ht ys a b) (-(hlf wd ht ys a b))) := hide rfl
                have HSY : Hid (hlf wd ht ys b a = hlf wd ht ys a b) := hide (hlf_sym b a)
                have HAT := hide (fun (W : World) (h : Below w7.heap.size w7 W) => And.intro ((OT.out.below h).tabAt (a := a) (b := b) hlta (by omega)) ((OT.out.below h).tabAt (a := b) (b := a) (by omega) hlta))
                obtain ⟨X, hX⟩ : ∃ X, X = hlf wd ht ys a b := ⟨_, rfl⟩
                obtain ⟨M, hM⟩ : ∃ M, M = comTo wd ht ys a b ys.length := ⟨_, rfl⟩
                rw [HSY.out, ← hX] at HAT
                rw [← hX] at HL1 hXb hcl HRX HTX
                rw [← hM] at HC1 hcl hcx
                clear hX hM HSY
                go_wp2_with fail
                refine HL1.out.mono ?_
                rintro e w9 ⟨rfl, hb9⟩
                have B9 := hB.trans (hb9.mono hB.size)
                have hpb9 := PP.out.below B9
                obtain ⟨qa9, qb9, qc9⟩ := hpb9.three
                clear qa qb qc hpb
                go_wp2_with fail
                refine (HC1.out _ B9).mono ?_
                rintro e wd0 ⟨rfl, hbd⟩
                have Bd := B9.trans (hbd.mono B9.size)
                obtain ⟨⟨g1, C1, d1, hX5, _, _, _, _, _, hcr1, hcv1, _, _⟩, ⟨g2, C2, d2, hX6, _, _, _, _, _, hcr2, hcv2, _, _⟩⟩ := HAT.out _ Bd
                injection hX5 with hX5
                injection hX5 with hX5
                injection hX6 with hX6
                injection hX6 with hX6
                subst hX5 hX6
                have hne : (X != X) = false := by simp
                have d3 : ¬ (M < 2 * X) := by omega
                have d4 : ¬ (M < -2 * X) := by omega
                have hw2 : IntKind.i64.wrap (2 * X) = 2 * X := by rw [IntKind.wrap_i64]; omega
                have hw3 : IntKind.i64.wrap (-2 * X) = -2 * X := by rw [IntKind.wrap_i64]; omega
                have hw4 : IntKind.i64.wrap (S2 + 2 * X) = S2 + 2 * X := by rw [IntKind.wrap_i64]; omega
                have hw5 : IntKind.i64.wrap (-X) = -X := by rw [IntKind.wrap_i64]; omega
                have HS3 : Hid (S2 + 2 * X = sgnRow wd ht ys a (b + 1)) := hide (by rw [HRX.out, hS2.out])
                clear qa9 qb9 qc9 hpb9 hcl hcx
                by_cases hsg9 : X < -X
                · have hw6 : IntKind.i64.wrap (L2 + -X) = L2 + -X := by rw [IntKind.wrap_i64]; omega
                  have HL3 : Hid (L2 + -X = totT wd ht ys a + rowT wd ht ys a (b + 1)) := hide (by rw [HTX.out, hL2.out, Int.max_eq_right (by omega)]; omega)
                  go_wp2_with fail
                  go_roundw
                  case rel => exact ⟨b + 1, _, _, by omega, by go_num, rfl, by go_num, HS3, HL3, Bd⟩
                  case measure => simp [intOf]; omega
                · have hw6 : IntKind.i64.wrap (L2 + X) = L2 + X := by rw [IntKind.wrap_i64]; omega
                  have HL3 : Hid (L2 + X = totT wd ht ys a + rowT wd ht ys a (b + 1)) := hide (by rw [HTX.out, hL2.out, Int.max_eq_left (by omega)]; omega)
                  go_wp2_with fail
                  go_roundw
                  case rel => exact ⟨b + 1, _, _, by omega, by go_num, rfl, by go_num, HS3, HL3, Bd⟩
                  case measure => simp [intOf]; omega
              · have eb : b = a := by omega
                have HS3 : Hid (S2 = sgnTo wd ht ys (a + 1)) := hide (by rw [hS2.out, eb, sgnRow_all])
                have HL3 : Hid (L2 = totT wd ht ys (a + 1)) := hide (by rw [hL2.out, eb]; rfl)
                obtain rfl : b = a := eb
                clear hS2 hL2
                go_wp2_with fail
                go_roundw
                case rel => exact ⟨b + 1, S2, L2, by omega, by go_num, rfl, rfl, HS3, HL3, hB⟩
                case measure => simp [intOf]; omega
          · have ea : a = N := by omega
            have hS3 : S = V := by rw [hS.out, ea, HEND.out]
            have hL3 : L = T := by rw [hL.out, ea, HT.out]
            subst hS3 hL3
            have e1 : (S == S) = true := by simp
            have e2 : (L == L) = true := by simp
            clear ea
            go_wp2_with fail
            go_ret
            exact ⟨by simp, BB.out.trans (hB.mono BB.out.size)⟩
end Go.Proofs.Ytmjeafklafjakaa
