/-
  Contracts: the table of linkings, of the program and of the reference. Conditions: a valid panel's sides and breaks.
-/
import Derived.Test.YtmjeafklafjakaaTr14
import Derived.Test.YtmjeafklafjakaaTab
namespace Go.Proofs.Ytmjeafklafjakaa
open Go.RowKit
set_option linter.unusedVariables false

section
variable {wd ht : Int} {xs : List Int}
noncomputable def tabG (wd ht : Int) (xs : List Int) (k : Nat) : List (List Int) := tab (curL wd ht xs).length (lkG (dirC wd ht xs true) (dirC wd ht xs false) (sgL wd ht xs) k)
noncomputable def tabO (wd ht : Int) (xs : List Int) (k : Nat) : List (List Int) := tab (curL wd ht xs).length (lkO (dirC wd ht xs true) (dirC wd ht xs false) (sgL wd ht xs) k)
theorem cur_le (hs : Sz wd ht) : (curL wd ht xs).length ≤ 256 := by have h1 := (trInv_all (xs := xs) hs).cnt; have h2 := nSeg_int hs; simp only at h1; omega
theorem tab_zeros (n : Nat) : List.replicate n (List.replicate n (0 : Int)) = tab n (fun _ _ => 0) := by
  unfold tab
  simp [List.map_const']
theorem tabG_zero : tabG wd ht xs 0 = List.replicate (curL wd ht xs).length (List.replicate (curL wd ht xs).length 0) := by
  rw [tab_zeros]; rfl
theorem tabO_zero : tabO wd ht xs 0 = List.replicate (curL wd ht xs).length (List.replicate (curL wd ht xs).length 0) := by
  rw [tab_zeros]
  exact tab_congr fun a b _ _ => by unfold lkO; split <;> rfl
end

set_option maxRecDepth 20000 in
set_option maxHeartbeats 16000000 in
theorem linkings_any (wd ht : Int) (A : Option Addr) (c : Nat) (xs : List Int) (w : World) (hxs : RI w A xs) (hcap : xs.length ≤ c ∧ c ≤ 9223372036854775807) (hs : Sz wd ht) (hl : (xs.length : Int) = innerN wd ht) (hn : xs.length ≤ 1048576) :
    Calls Try.prog 29 #[.agg #[.int .i64 wd, .int .i64 ht, .slice A xs.length c]] w (RetC w (tabO wd ht xs (crN xs))) := by
  have HCUR := hide (cur_le (xs := xs) hs)
  have hnl := crN_le xs
  have HLEN := hide (fun b => dir_len (b := b) (xs := xs) hs hl)
  have HFOUR := hide (fun k hk => dir_four (xs := xs) hs hl (k := k) hk)
  have HSL := hide (sgL_len (xs := xs) hs hl)
  have HCOUNT := hide (fun (W : World) (hb : Below w.heap.size w W) => countCurves_any wd ht A c xs W (hxs.below hb) hs hl)
  have HDIR := hide (fun (W : World) (hb : Below w.heap.size w W) => directions_any wd ht A c xs W (hxs.below hb) hcap hs hl hn)
  have HSIG := hide (fun (W : World) (hb : Below w.heap.size w W) => signs_any wd ht A c xs W (hxs.below hb) hcap hs hl hn)
  have HPM := hide (fun s (h : s ∈ sgL wd ht xs) => sgL_pm h)
  obtain ⟨n, hnn⟩ : ∃ n, n = (zTo xs xs.length).length := ⟨_, rfl⟩
  have HNN : Hid (crN xs = n) := hide hnn.symm
  rw [← hnn] at HLEN HFOUR HSL
  have hnle : n ≤ 1048576 := by rw [hnn]; exact Nat.le_trans hnl hn
  obtain ⟨K, hK⟩ : ∃ K, K = (curL wd ht xs).length := ⟨_, rfl⟩
  have HK := hide hK
  rw [← hK] at HCUR HCOUNT HFOUR
  have hKl := HCUR.out
  have hmk := fun W : World => run_make_i64 K (by omega) W
  have HZ0 : Hid (List.replicate K (List.replicate K 0) = tabO wd ht xs 0) := hide (by rw [tabO_zero, ← HK.out])
  clear hnn hs hl hcap hK hnl
  obtain ⟨pa_x1, pb_x1, pc_x1⟩ := (Bx.new_ w (w.heap.size) 26 #[.int .i64 wd, .int .i64 ht, .slice A xs.length c] (by simp)).three
  have he : OwnC (((w.alloc (.cells #[.int .i64 wd, .int .i64 ht, .slice A xs.length c] 26))).alloc (.cells #[] 24)) (w.heap.size + 1) (((w.alloc (.cells #[.int .i64 wd, .int .i64 ht, .slice A xs.length c] 26))).alloc (.cells #[] 24)).heap.size (some ⟨w.heap.size + 1, 0, none⟩) 0 [] := (OwnC.empty_ (w.alloc (.cells #[.int .i64 wd, .int .i64 ht, .slice A xs.length c] 26)) (w.heap.size + 1) (by simp) (by simp)).mono (Nat.le_refl _) (by simp)
  obtain ⟨pa_x2, pb_x2, pc_x2⟩ := ((Bx.new_ w (w.heap.size) 26 #[.int .i64 wd, .int .i64 ht, .slice A xs.length c] (by simp)).alloc (.cells #[] 24)).three
  go_enter Try.func29, Try.ntmps29
  go_wp2_with fail
  refine (HCOUNT.out _ (((Below.refl w.heap.size w).alloc (by first | omega | (simp; omega) | simp) (.cells #[.int .i64 wd, .int .i64 ht, .slice A xs.length c] 26)).alloc (by first | omega | (simp; omega) | simp) (.cells #[] 24))).mono ?_
  rintro e w1 ⟨rfl, hb1⟩
  have p_1 := ((Bx.new_ w (w.heap.size) 26 #[.int .i64 wd, .int .i64 ht, .slice A xs.length c] (by simp)).alloc (.cells #[] 24)).below hb1
  obtain ⟨pa_1, pb_1, pc_1⟩ := (p_1).three
  have out_1 := (he).below hb1
  have z_1 : ((w.alloc (.cells #[.int .i64 wd, .int .i64 ht, .slice A xs.length c] 26)).alloc (.cells #[] 24)).heap.size ≤ w1.heap.size := hb1.size
  simp only [World.size_alloc] at z_1
  have B_1 := (((Below.refl w.heap.size w).alloc (by first | omega | (simp; omega) | simp) (.cells #[.int .i64 wd, .int .i64 ht, .slice A xs.length c] 26)).alloc (by first | omega | (simp; omega) | simp) (.cells #[] 24)).trans (hb1.mono (by first | omega | (simp; omega) | simp))
  have out1 : OwnC w1 (w.heap.size + 1) w1.heap.size (some ⟨w.heap.size + 1, 0, none⟩) 0 [] := ((out_1)).mono (Nat.le_refl _) (by simp; omega)
  have hp1 := (p_1)
  have hB1 := (B_1)
  clear he out_1 hb1
  go_wp2_with fail
  go_loopw [15, 3] (fun iv ov wr => ∃ (k : Nat) (A1 : Option Addr) (c1 : Nat) (zs : List (List Int)), k ≤ K ∧ iv = .int .i64 (k : Int) ∧ ov = .slice A1 zs.length c1 ∧ Hid (zs = List.replicate k (List.replicate K 0)) ∧ OwnC wr (w.heap.size + 1) wr.heap.size A1 c1 zs ∧ Bx wr w.heap.size 26 #[.int .i64 wd, .int .i64 ht, .slice A xs.length c] ∧ Below w.heap.size w wr) (fun iv _ _ => K - (intOf iv).toNat)
  case atStart => exact ⟨0, _, 0, [], Nat.zero_le _, rfl, rfl, hide rfl, out1, hp1, hB1⟩
  case round =>
    clear out1 hp1 hB1 p_1 pa_1 pb_1 pc_1 B_1 z_1
    obtain ⟨k, A1, c1, zs, hk, rfl, rfl, hzs, own, hp, hB⟩ := hrel
    have hz := hB.size
    have hzl : zs.length ≤ 256 := by rw [hzs.out, List.length_replicate]; omega
    have hpl := hp.lt
    obtain ⟨pa_0, pb_0, pc_0⟩ := hp.three
    by_cases hlt : k < K
    · go_wp2_with fail
      refine (HCOUNT.out _ hB).mono ?_
      rintro e w2 ⟨rfl, hb2⟩
      have hz2 := hb2.size
      have own2 := (own.below hb2).mono (Nat.le_refl _) hz2
      have hp2 := hp.below hb2
      have hB2 := hB.trans (hb2.mono hz)
      have hrow := OwnI.made w2 (base := w2.heap.size) w2.heap.size (m := K) rfl (Nat.le_refl _) (by omega)
      obtain ⟨rz, hrz⟩ : ∃ rz, rz = List.replicate K (0 : Int) := ⟨_, rfl⟩
      have hrl : rz.length = K := by rw [hrz, List.length_replicate]
      have hfr : RG hdE ((w2.alloc (.cells (madeCells #[.int .i64 0] K) 2)).alloc (.cells #[.slice (some ⟨w2.heap.size, 0, none⟩) K K] 24)) (some ⟨w2.heap.size + 1, 0, none⟩) [⟨some ⟨w2.heap.size, 0, none⟩, rz.length, K⟩] := by
        rw [hrl]
        exact RG.fresh (E := hdE) (w2.alloc _) (w2.heap.size + 1) (by simp) ⟨some ⟨w2.heap.size, 0, none⟩, K, K⟩ #[.slice (some ⟨w2.heap.size, 0, none⟩) K K] rfl _
      have hrow2 : OwnI (w2.alloc (.cells (madeCells #[.int .i64 0] K) 2)) w2.heap.size (some ⟨w2.heap.size, 0, none⟩) K rz := by rw [hrz]; exact hrow
      have HZ : Hid (zs ++ [rz] = List.replicate (k + 1) (List.replicate K 0)) := hide (by rw [hrz, hzs.out, List.replicate_succ'])
      clear hrow hrz hrl own hp hB hb2 pa_0 pb_0 pc_0
      go_wp2_with (at_builtin; refine wpList_append_code rfl (.tmp 17) (.tmp 21) rfl (w.heap.size + 1) w2.heap.size A1 c1 zs rfl ((own2.alloc _).alloc _) (some ⟨w2.heap.size + 1, 0, none⟩) 1 rfl (some ⟨w2.heap.size, 0, none⟩) K rz hfr (hrow2.alloc _) (by omega) (by simp; omega) (by omega) (zs ++ [rz]) rfl ?_; intro A3 c3 w3 own3 hg3 hb3)
      have hp3 := ((hp2.alloc (.cells (madeCells #[.int .i64 0] K) 2)).alloc (.cells #[.slice (some ⟨w2.heap.size, 0, none⟩) K K] 24)).grown hg3 (.inr (fun e => by have := (own2.ge2 e).1; omega))
      go_roundw
      case rel => exact ⟨k + 1, A3, c3, zs ++ [rz], by omega, by go_num, by simp, HZ, own3, hp3, ((hB2.alloc (by omega) _).alloc (by simp; omega) _).grown hg3 (by simp; omega) (fun q hq => by have := (own2.ge2 hq).1; omega)⟩
      case measure => simp [intOf]; omega
    · have HM0 : Hid (zs = tabO wd ht xs 0) := hide (by rw [hzs.out, show k = K by omega]; exact HZ0.out)
      rw [HM0.out] at own
      have HTL : Hid (∀ k, (tabO wd ht xs k).length = K) := hide (fun k => by unfold tabO; rw [tab_len, HK.out])
      have hzK : zs.length = K := by rw [HM0.out, HTL.out]
      rw [hzK]
      obtain ⟨T, hT⟩ : ∃ T, T = wr.heap.size := ⟨_, rfl⟩
      rw [← hT] at own
      have hTz : T ≤ wr.heap.size := by omega
      have hTz2 : wr.heap.size ≤ T := by omega
      have hz' : w.heap.size ≤ wr.heap.size := hz
      clear hzs hzK hmk hzl hT
      go_wp2_with fail
      refine (HDIR.out _ hB).mono ?_
      rintro e w4 ⟨A1', a1', A2', a2', C1, d1, C2, d2, rfl, _, _, oc, uc, hb4⟩
      have own4 := own.below hb4
      have hp4 := hp.below hb4
      have hB4 := hB.trans (hb4.mono hz)
      have hz4 := hb4.size
      obtain ⟨pa_4, pb_4, pc_4⟩ := hp4.three
      clear own hp hB hb4 pa_0 pb_0 pc_0
      go_wp2_with fail
      refine (HSIG.out _ hB4).mono ?_
      rintro e w5 ⟨A3, d3, rfl, sg, hb5⟩
      have own5 := own4.below hb5
      have hB5 := hB4.trans (hb5.mono hB4.size)
      have oc5 := (oc.below hb5).mono (show T ≤ wr.heap.size by omega)
      have uc5 := (uc.below hb5).mono (show T ≤ wr.heap.size by omega)
      have sg5 := sg.mono (show T ≤ w4.heap.size by omega)
      have hz5 := hb5.size
      have hw5 : T ≤ w5.heap.size := by omega
      rw [(HLEN.out true).2, (HLEN.out false).2, HSL.out]
      rw [(HLEN.out true).1, (HLEN.out false).1]
      clear own4 hp4 hB4 oc uc sg hb5 pa_4 pb_4 pc_4
      go_wp2_with fail
      go_loopw [34] (fun kv wr => ∃ (k : Nat), k ≤ n ∧ kv = .int .i64 (k : Int) ∧ OwnC wr (w.heap.size + 1) T A1 c1 (tabO wd ht xs k) ∧ OwnI wr T C1 d1 (dirC wd ht xs true) ∧ OwnI wr T C2 d2 (dirC wd ht xs false) ∧ OwnI wr T A3 d3 (sgL wd ht xs) ∧ T ≤ wr.heap.size ∧ Below w.heap.size w wr) (fun kv _ => n - (intOf kv).toNat)
      case atStart => exact ⟨0, Nat.zero_le _, rfl, own5, oc5, uc5, sg5, hw5, hB5⟩
      case round =>
        clear own5 oc5 uc5 sg5 hw5 hB5
        obtain ⟨k, hk, rfl, own, oc, uc, sg, hzT, hB⟩ := hrel
        have hzB := hB.size
        by_cases hlt2 : k < n
        · obtain ⟨o, u, i, j, _, _, _, _, f1, f2, hi, hj, _, _, f3⟩ := HFOUR.out k hlt2
          have hs := HPM.out _ (List.mem_of_getElem? f3)
          have hbd := fun a b => lkO_bound (oc := dirC wd ht xs true) (uc := dirC wd ht xs false) (fun s h => HPM.out s h) k a b
          obtain ⟨s, hse⟩ : ∃ s, s = sgW o u := ⟨_, rfl⟩
          rw [← hse] at f3 hs
          obtain ⟨q1, v1, rfl, hq1b, hq1, hv1, hc1, _, _⟩ := oc.at_ (k := k) (by rw [(HLEN.out true).2]; exact hlt2)
          obtain rfl : v1 = (i : Int) := by rw [f1] at hv1; injection hv1 with h; exact h.symm
          obtain ⟨q2, v2, rfl, hq2b, hq2, hv2, hc2, _, _⟩ := uc.at_ (k := k) (by rw [(HLEN.out false).2]; exact hlt2)
          obtain rfl : v2 = (j : Int) := by rw [f2] at hv2; injection hv2 with h; exact h.symm
          obtain ⟨q3, v3, rfl, hq3b, hq3, hv3, hc3, _, _⟩ := sg.at_ (k := k) (by rw [HSL.out]; exact hlt2)
          obtain rfl : v3 = s := by rw [f3] at hv3; injection hv3 with h; exact h.symm
          have hsI : -1 ≤ v3 ∧ v3 ≤ 1 := by omega
          clear hse hv1 hv2 hv3
          by_cases hij : i = j
          · subst hij
            have HT : Hid (tabO wd ht xs k = tabO wd ht xs (k + 1)) := hide (off_same f1 f2 f3)
            have e0 : ((i : Int) != (i : Int)) = false := by simp
            clear f1 f2 f3 hbd hs
            go_wp2_with fail
            go_quiet (fail)
            rename Nat => nq
            go_wp2_with fail
            go_roundw
            case rel => exact ⟨k + 1, by omega, by go_num, by rw [← HT.out]; exact own.drewN _, oc.drewN _, uc.drewN _, sg.drewN _, hzT, below_drewN' hB _⟩
            case measure => simp [intOf]; omega
          · have hiL : i < (curL wd ht xs).length := by rw [← HK.out]; exact hi
            have hjL : j < (curL wd ht xs).length := by rw [← HK.out]; exact hj
            have HT := hide (off_two (n := (curL wd ht xs).length) hiL hjL hij f1 f2 f3)
            have e0 : ((i : Int) != (j : Int)) = true := by rw [bne_iff_ne]; omega
            have hb1 := hbd i j
            have hb2 := hbd j i
            have HNE := hide hij
            clear f1 f2 f3 hbd hs
            go_wp2_with fail
            go_quiet (fail)
            rename Nat => nq
            have own0 : OwnC (wr.drewN nq) (w.heap.size + 1) T A1 c1 (tab (curL wd ht xs).length (lkO (dirC wd ht xs true) (dirC wd ht xs false) (sgL wd ht xs) k)) := own.drewN _
            obtain ⟨g1, B1, dd1, hA1, hg1a, hg1b, hB1a, hB1b, _, hh1, hcc1, hff1, hst1⟩ := own0.tabAt hiL hjL
            subst hA1
            have own1 := (hst1 (lkO (dirC wd ht xs true) (dirC wd ht xs false) (sgL wd ht xs) k i j + v3)).1
            have gr1 := (hst1 (lkO (dirC wd ht xs true) (dirC wd ht xs false) (sgL wd ht xs) k i j + v3)).2
            obtain ⟨g2, B2, dd2, hA2, hg2a, hg2b, hB2a, hB2b, _, hh2, hcc2, hff2, hst2⟩ := own1.tabAt hjL hiL
            injection hA2 with hA2; injection hA2 with hA2; subst hA2
            rw [if_neg (fun h => HNE.out h.2)] at hcc2
            have own2 := (hst2 (lkO (dirC wd ht xs true) (dirC wd ht xs false) (sgL wd ht xs) k j i + v3)).1
            have gr2 := (hst2 (lkO (dirC wd ht xs true) (dirC wd ht xs false) (sgL wd ht xs) k j i + v3)).2
            rw [HT.out] at own2
            rw [← HK.out] at hh1 hh2
            have OC := hide (((oc.drewN nq).grownFar gr1 (fun g hg => by have := blk_inj hg; omega)).grownFar gr2 (fun g hg => by have := blk_inj hg; omega))
            have UC := hide (((uc.drewN nq).grownFar gr1 (fun g hg => by have := blk_inj hg; omega)).grownFar gr2 (fun g hg => by have := blk_inj hg; omega))
            have SG := hide (((sg.drewN nq).grownFar gr1 (fun g hg => by have := blk_inj hg; omega)).grownFar gr2 (fun g hg => by have := blk_inj hg; omega))
            have HB := hide (below_own (below_own (below_drewN' hB nq) gr1 hzB (by omega)) gr2 (by simp; omega) (by omega))
            have OWN := hide own2
            obtain ⟨x1, hx1⟩ : ∃ x, x = lkO (dirC wd ht xs true) (dirC wd ht xs false) (sgL wd ht xs) k i j := ⟨_, rfl⟩
            obtain ⟨x2, hx2⟩ : ∃ x, x = lkO (dirC wd ht xs true) (dirC wd ht xs false) (sgL wd ht xs) k j i := ⟨_, rfl⟩
            rw [← hx1] at hb1 hcc1 hh2 hcc2 hff2 OWN OC UC SG HB
            rw [← hx2] at hb2 hcc2 OWN OC UC SG HB
            clear hst1 hst2 own0 own1 own2 gr1 gr2 hx1 hx2 own oc uc sg hij
            go_wp2_with fail
            go_roundw
            case rel => exact ⟨k + 1, by omega, by go_num, OWN.out, OC.out, UC.out, SG.out, by simp; omega, HB.out⟩
            case measure => simp [intOf]; omega
        · obtain rfl : n = k := by omega
          clear hlt2
          go_wp2_with fail
          go_ret
          exact ⟨A1, c1, by rw [HTL.out]; rfl, by rw [HNN.out]; exact own.mono (by omega) hzT, hB⟩

end Go.Proofs.Ytmjeafklafjakaa
