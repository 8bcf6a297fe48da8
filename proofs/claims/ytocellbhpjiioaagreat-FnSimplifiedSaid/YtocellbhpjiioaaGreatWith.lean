/-
  Contracts: a code without some crossings, of the program and of the reference. Conditions: none beyond the lengths.
-/
import Derived.Test.YtocellbhpjiioaaGreatWithMathM
namespace Go.Proofs.YtocellbhpjiioaaGreat
open Go.RowKit
set_option linter.unusedVariables false

set_option maxRecDepth 100000 in
set_option maxHeartbeats 4000000 in
theorem without_any (A : Option Addr) (c T : Nat) (B : Option Addr) (d : Nat) (gs : List Int) (code : List (List Int)) (w : World) (hc : RC w T A code) (hg : RI w B gs) (hgl : gs.length ≤ 1048576) (hn : code.length + sumLen code ≤ 1048576)
    (hI : ∀ xs ∈ code, ∀ x ∈ xs, -9223372036854775808 < x ∧ x ≤ 9223372036854775807) :
    Calls Tryz.prog 57 #[.slice A code.length c, .slice B gs.length d] w (RetC w (withoutC (fun k : Nat => hasB gs (k : Int)) code)) := by
  have hmm := @run_makeMap Tryz.prog
  have HI := hide hI
  obtain ⟨N, hNe⟩ : ∃ N, N = sumLen code / 2 := ⟨_, rfl⟩
  have hNl : N ≤ 1048576 := by omega
  have HNE := hide hNe
  have e1 : (sumLen code : Int) / 2 = (N : Int) := by omega
  obtain ⟨g, hgd⟩ : ∃ g : Nat → Bool, g = fun k : Nat => hasB gs (k : Int) := ⟨_, rfl⟩
  rw [← hgd]
  have HG : Hid (∀ k, g k = hasB gs (k : Int)) := hide (fun k => by rw [hgd])
  have hc0 := hc.alloc (.map #[] 0)
  clear hI hNe hgd
  go_enter Tryz.func57, Tryz.ntmps57
  go_wp2_with (go_at_call 68; refine (countCoded_any _ _ T code _ hc0 hn).mono ?_; rintro e w' ⟨rfl, rfl⟩)
  go_loopw [10] (fun s wr => ∃ (k : Nat) (l : List (Int × Int)), k ≤ N ∧ s = .int .i64 (k : Int) ∧ Hid (l = numsW g k) ∧ Mp nmE wr w.heap.size l ∧ Below w.heap.size w wr) (fun s _ => N - (intOf s).toNat)
  case atStart => exact ⟨0, [], Nat.zero_le _, rfl, hide rfl, Mp.made w _ rfl, (Below.refl _ _).alloc (Nat.le_refl _) _⟩
  case round =>
    clear hmm
    obtain ⟨k, l, hk, rfl, hl, hmp, hB⟩ := hrel
    have hz := hB.size
    have hgr := hg.below hB
    by_cases hlt : k < N
    · cases hgk : hasB gs (k : Int)
      · have HL : Hid (l ++ [((k : Int), (l.length : Int))] = numsW g (k + 1)) := hide (by rw [numsW_no (by rw [HG.out]; exact hgk), ← hl.out])
        have HN : Hid (l.lookup (k : Int) = none) := hide (by rw [hl.out]; exact numsW_fresh g k _ (Int.le_refl _))
        have hln : (Builtin.len_ #[96] 3 #[.map (some w.heap.size)]).run Tryz.prog wr = .ok (.int .i64 (l.length : Int)) wr := hmp.len _
        go_wp2_with (first
          | (go_at_call 77; refine (slContains_any _ _ gs _ _ hgr hgl).mono ?_; rintro e w' ⟨rfl, rfl⟩)
          | (at_mapUpdate; refine wpList_put rfl (.tmp 17) (.tmp 18) (.tmp 20) nmE rfl w.heap.size l rfl hmp (k : Int) rfl (l.length : Int) rfl HN.out ?_; intro w2 hmp2 hg2))
        go_roundw
        case rel => exact ⟨k + 1, _, by omega, by go_num, HL, hmp2, hB.grown hg2 hz (fun k hk => by injection hk with hk; omega)⟩
        case measure => simp [intOf]; omega
      · have HL : Hid (l = numsW g (k + 1)) := hide (by rw [numsW_yes (by rw [HG.out]; exact hgk)]; exact hl.out)
        go_wp2_with (go_at_call 77; refine (slContains_any _ _ gs _ _ hgr hgl).mono ?_; rintro e w' ⟨rfl, rfl⟩)
        go_roundw
        case rel => exact ⟨k + 1, l, by omega, by go_num, HL, hmp, hB⟩
        case measure => simp [intOf]; omega
    · have hl' := hl.out
      rw [show k = N by omega] at hl'
      have HV : Hid (renC (numF l) code = withoutC g code) := hide (by unfold withoutC; rw [hl', HNE.out])
      have HBD : Hid (∀ c v, l.lookup c = some v → 0 ≤ v ∧ v ≤ 1048576) := hide (fun c v hcv => by
        have h1 := numsW_ok g N
        rw [← hl'] at h1
        have h2 := h1 c v hcv
        have h3 := numsW_len g N
        rw [← hl'] at h3
        omega)
      clear hl hl'
      go_wp2_with fail
      refine (renamed_any _ _ T _ l code _ (hc.below hB) hn hmp HI.out HBD.out).mono ?_
      rw [HV.out]
      rintro e w2 ⟨A2, c2, rfl, own, hb2⟩
      have hB2 := hB.trans (hb2.mono hB.size)
      have hzz := hB.size
      go_wp2_with fail
      go_ret
      exact ⟨A2, c2, rfl, own.mono hzz (Nat.le_refl _), hB2⟩

theorem boolR_at {w : World} {A : Option Addr} {l : List Bool} (h : RG boolE w A l) {k : Nat} (hk : k < l.length) : ∃ b off, A = some ⟨b, off, none⟩ ∧ b < w.heap.size ∧ w.cell? ⟨b, off + k, none⟩ = some (.bool (l.getD k false)) := by
  obtain ⟨b, off, x, rfl, hb, hx, hc⟩ := h.row hk
  have hc0 := hc 0 _ rfl
  have e0 : k * boolE.size + 0 = k := by simp [boolE]
  rw [e0] at hc0
  exact ⟨b, off, rfl, hb, by rw [List.getD_eq_getElem?_getD, hx]; exact hc0⟩

set_option maxRecDepth 100000 in
set_option maxHeartbeats 8000000 in
theorem l15Without_any (A : Option Addr) (c T : Nat) (Bg : Option Addr) (dg : Nat) (bs : List Bool) (code : List (List Int)) (w : World) (hc : RC w T A code) (hg : RG boolE w Bg bs) (hn : code.length + sumLen code ≤ 1048576) (hN : sumLen code / 2 ≤ 120) (hbl0 : bs.length = sumLen code / 2)
    (hI : ∀ xs ∈ code, ∀ x ∈ xs, x ≠ 0 ∧ -((sumLen code / 2 : Nat) : Int) ≤ x ∧ x ≤ ((sumLen code / 2 : Nat) : Int)) :
    Calls Tryz.prog 62 #[.slice A code.length c, .slice Bg bs.length dg] w (RetC w (withoutC (fun k => bs.getD k false) code)) := by
  obtain ⟨N, hNe⟩ : ∃ N, N = sumLen code / 2 := ⟨_, rfl⟩
  rw [← hNe] at hN hI hbl0
  have HNe := hide hNe
  have HI := hide hI
  have hbl := hide hbl0
  have e1 : (sumLen code : Int) / 2 = (N : Int) := by omega
  have hmk := fun W : World => run_make_names N (by omega) W
  obtain ⟨g, hgd⟩ : ∃ g : Nat → Bool, g = fun k => bs.getD k false := ⟨_, rfl⟩
  rw [← hgd]
  have HG : Hid (∀ k, g k = bs.getD k false) := hide (fun k => by rw [hgd])
  have hnm : Own intE (w.alloc (.cells (madeCells intE.z.cells ((N + 1) * intE.size)) 2)) w.heap.size (some ⟨w.heap.size, 0, none⟩) (N + 1) (nameL N []) := by
    rw [nameL_nil]
    exact Own.made (E := intE) w _ 0 rfl rfl (Nat.le_refl _) (by omega)
  have hB0 : Below w.heap.size w (w.alloc (.cells (madeCells intE.z.cells ((N + 1) * intE.size)) 2)) := (Below.refl _ _).alloc (Nat.le_refl _) _
  clear hI hNe hgd hbl0
  go_enter Tryz.func62, Tryz.ntmps62
  go_wp2_with (go_at_call 51; refine (l15Many_any _ _ T code _ hc hn).mono ?_; rintro e w' ⟨rfl, rfl⟩)
  go_loopw [6, 7] (fun s6 s7 wr => ∃ (k : Nat) (acc : List (Int × Int)), k ≤ N ∧ s7 = .int .i64 ((k : Int) + 1) ∧ s6 = .int .i64 (acc.length : Int) ∧ Hid (acc = numsW g k) ∧ Own intE wr w.heap.size (some ⟨w.heap.size, 0, none⟩) (N + 1) (nameL N acc) ∧ Below w.heap.size w wr) (fun _ s7 _ => N + 1 - (intOf s7).toNat)
  case atStart => exact ⟨0, [], Nat.zero_le _, by go_num, rfl, hide rfl, hnm, hB0⟩
  case round =>
    clear hnm hB0 hmk e1
    obtain ⟨k, acc, hk, rfl, rfl, hacc, onm, hB⟩ := hrel
    have hz := hB.size
    have hal : acc.length ≤ k := by rw [hacc.out]; exact numsW_len g k
    obtain ⟨K1, hK1⟩ : ∃ K1 : Int, K1 = (k : Int) + 1 := ⟨_, rfl⟩
    have HK1 := hide hK1
    by_cases hlt : k < N
    · obtain ⟨b, off, rfl, hb, hcell⟩ := boolR_at (hg.below hB) (k := k) (by rw [hbl.out]; exact hlt)
      have hkb : (k : Int) < (bs.length : Int) := by have := hbl.out; omega
      have wk : IntKind.i64.wrap (K1 - 1) = (k : Int) := by rw [IntKind.wrap_i64]; omega
      have wk1 : IntKind.i64.wrap (K1 + 1) = K1 + 1 := by rw [IntKind.wrap_i64]; omega
      have hKN : K1 < (N : Int) + 1 := by omega
      have hbk : bs.getD k false = g k := (HG.out k).symm
      rw [hbk] at hcell
      rw [← hK1]
      clear hbk hK1
      cases hgk : g k
      · rw [hgk] at hcell
        have hfresh : acc.lookup (((k + 1 : Nat) : Int) - 1) = none := by rw [hacc.out]; exact numsW_fresh g k _ (by omega)
        have hq := nameL_none (N := N) (j := k + 1) (by omega) hfresh
        obtain ⟨q, hqe, _, hgs, hcell2, hfr, hput⟩ := intE_at onm hq
        injection hqe with hqe
        injection hqe with hqe
        subst hqe
        have hp := hput ((acc.length : Int) + 1)
        have HSET : Hid ((nameL N acc).set (k + 1) ((acc.length : Int) + 1) = nameL N (acc ++ [((k : Int), (acc.length : Int))])) := hide (by rw [nameL_set (by omega) hfresh, show ((k + 1 : Nat) : Int) - 1 = (k : Int) by omega])
        rw [HSET.out] at hp
        have HA : Hid (acc ++ [((k : Int), (acc.length : Int))] = numsW g (k + 1)) := hide (by rw [numsW_no hgk, ← hacc.out])
        have hBS := hB.setCell (p := ⟨w.heap.size, k + 1, none⟩) (Nat.le_refl _) (.int .i64 ((acc.length : Int) + 1))
        obtain ⟨j1, hj1⟩ : ∃ j1 : Nat, j1 = k + 1 := ⟨_, rfl⟩
        have hjK : K1 = (j1 : Int) := by have := HK1.out; omega
        have HJ := hide hj1
        rw [← hj1] at hp hcell2 hfr hBS
        obtain ⟨a1, ha1⟩ : ∃ a1 : Int, a1 = (acc.length : Int) + 1 := ⟨_, rfl⟩
        have wa : IntKind.i64.wrap ((acc.length : Int) + 1) = a1 := by rw [IntKind.wrap_i64]; omega
        have HA1 := hide ha1
        rw [← ha1] at hp hBS
        clear hq hput hfresh hj1 ha1 hgk
        subst hjK
        go_wp2_with fail
        go_roundw
        case rel => exact ⟨k + 1, acc ++ [((k : Int), (acc.length : Int))], by omega, (by first | (rw [HJ.out]; go_num; done) | (rw [HJ.out]; done)), by rw [HA1.out]; simp, HA, hp.1, hBS⟩
        case measure => have := HJ.out; simp [intOf]; omega
      · rw [hgk] at hcell
        have HA : Hid (acc = numsW g (k + 1)) := hide (by rw [numsW_yes hgk]; exact hacc.out)
        clear hgk
        go_wp2_with fail
        go_roundw
        case rel => exact ⟨k + 1, acc, by omega, by rw [HK1.out]; go_num, rfl, HA, onm, hB⟩
        case measure => have := HK1.out; simp [intOf]; omega
    · have hacc' := hacc.out
      rw [show k = N by omega] at hacc'
      have HACC := hide hacc'
      have hKN : ¬ ((k : Int) + 1 < (N : Int) + 1) := by omega
      obtain ⟨F, hF⟩ : ∃ F, F = numF acc := ⟨_, rfl⟩
      have HF := hide hF
      have HV : Hid (renC F code = withoutC g code) := hide (by unfold withoutC; rw [hF, hacc', HNe.out])
      have hok := numsW_ok g N
      rw [← hacc'] at hok
      have HOK := hide hok
      have hzo : w.heap.size + 1 ≤ wr.heap.size := (onm.ge (g := w.heap.size) rfl).2
      have he : OwnC (wr.alloc (.cells #[] 65)) (w.heap.size + 1) (wr.alloc (.cells #[] 65)).heap.size (some ⟨wr.heap.size, 0, none⟩) 0 [] := (OwnC.empty_ wr _ rfl hzo).mono (Nat.le_refl _) (by simp)
      have he2 := onm.alloc (.cells #[] 65)
      have he3 := hB.alloc hz (.cells #[] 65)
      have hk2 := hk
      have hal2 : acc.length ≤ 120 := by omega
      clear hacc hacc' hF hok onm hB hK1 HK1
      go_wp2_with fail
      clear hKN
      go_loopw [8, 9] (fun o i wr => ∃ (k : Nat) (A1 : Option Addr) (c1 : Nat) (zs : List (List Int)), k ≤ code.length ∧ i = .int .i64 k ∧ o = .slice A1 zs.length c1 ∧ Hid (zs = renC F (code.take k)) ∧ OwnC wr (w.heap.size + 1) wr.heap.size A1 c1 zs ∧ Own intE wr w.heap.size (some ⟨w.heap.size, 0, none⟩) (N + 1) (nameL N acc) ∧ Below w.heap.size w wr) (fun _ i _ => code.length - (intOf i).toNat)
      case atStart => exact ⟨0, _, 0, [], Nat.zero_le _, rfl, rfl, hide rfl, he, he2, he3⟩
      case round =>
        clear he he2 he3 hzo hz
        obtain ⟨k, A1, c1, zs, hk, rfl, rfl, hzs, own, onm, hB⟩ := hrel
        obtain ⟨wo, rfl⟩ : ∃ wo : World, wo = wr := ⟨_, rfl⟩
        have hz := hB.size
        have hzo : w.heap.size + 1 ≤ wo.heap.size := (onm.ge (g := w.heap.size) rfl).2
        have hcr := hc.below hB
        have hzl : zs.length ≤ 1048576 := by rw [hzs.out, renC_length, List.length_take]; omega
        by_cases hlt : k < code.length
        · obtain ⟨b, off, B, d, xs, rfl, hb, hx, hcc, hd1, hd2, hR⟩ := hcr.row hlt
          have hxl := sumLen_row hx
          have HX := hide hx
          have hxi := HI.out xs (List.mem_of_getElem? hx)
          have HXI := hide hxi
          clear hx hd1 hd2 hxi hR hcc hb hcr
          have hri : OwnI (wo.alloc (.cells #[] 2)) wo.heap.size (some ⟨wo.heap.size, 0, none⟩) 0 [] := OwnI.empty wo (Nat.le_refl _)
          have hBi : Below wo.heap.size wo (wo.alloc (.cells #[] 2)) := (Below.refl _ _).alloc (Nat.le_refl _) _
          go_wp2_with fail
          go_loopw [10, 11] (fun o i wr => ∃ (j : Nat) (A2 : Option Addr) (c2 : Nat) (ys : List Int), j ≤ xs.length ∧ i = .int .i64 j ∧ o = .slice A2 ys.length c2 ∧ Hid (ys = renRow F (xs.take j)) ∧ OwnI wr wo.heap.size A2 c2 ys ∧ Below wo.heap.size wo wr) (fun _ i _ => xs.length - (intOf i).toNat)
          case atStart => exact ⟨0, _, 0, [], Nat.zero_le _, rfl, rfl, hide rfl, hri, hBi⟩
          case round =>
            clear hri hBi
            obtain ⟨j, A2, c2, ys, hj, rfl, rfl, hys, owni, hBi⟩ := hrel
            have hzi := hBi.size
            have hBB := hB.trans (hBi.mono hz)
            have hyl : ys.length ≤ j := by rw [hys.out]; have := renRow_len F (xs.take j); rw [List.length_take] at this; omega
            obtain ⟨b', off', B', d', xs', hA', hb, hx', hcc, _, _, hR⟩ := (hc.below hBB).row hlt
            injection hA' with hA'
            injection hA' with e1 e2
            subst e1 e2
            obtain rfl : xs = xs' := by have := HX.out; rw [hx'] at this; injection this with this; exact this.symm
            clear hx'
            by_cases hjl : j < xs.length
            · obtain ⟨b2, off2, x, rfl, hb2, hx, hcx⟩ := hR.at_ hjl
              obtain ⟨i0, i1, i2⟩ := HXI.out x (List.mem_of_getElem? hx)
              obtain ⟨m, hm⟩ : ∃ m : Nat, crI x + 1 = (m : Int) := ⟨(crI x + 1).toNat, by unfold crI; omega⟩
              have hmN : m < N + 1 := by unfold crI at hm; omega
              have hcm : crI x = (m : Int) - 1 := by omega
              have hmj : (m : Int) < (N : Int) + 1 := by omega
              have hwn : -9223372036854775808 < x := by omega
              have hwx : x ≤ 9223372036854775807 := by omega
              have onm2 := onm.below hBi
              cases hlx : acc.lookup (crI x) with
              | none =>
                have hq := nameL_none (N := N) hmN (show acc.lookup ((m : Int) - 1) = none by rw [← hcm]; exact hlx)
                obtain ⟨q, hqe, _, hgs, hcell, hfr, _⟩ := intE_at onm2 hq
                injection hqe with hqe
                injection hqe with hqe
                subst hqe
                have HY : Hid (ys = renRow F (xs.take (j + 1))) := hide (by rw [renRow_next hx, renX_none (show F (crI x) = none by rw [HF.out]; exact hlx), ← hys.out]; simp)
                clear hx hlx hq hcm
                go_wp2_with (go_at_call 79; refine (l15Size_any _ _ hwn hwx).mono ?_; rintro e w' ⟨rfl, rfl⟩; rw [hm])
                go_roundw
                case rel => exact ⟨j + 1, A2, c2, ys, by omega, by go_num, rfl, HY, owni, hBi⟩
                case measure => simp [intOf]; omega
              | some v =>
                have hq := nameL_some (N := N) hmN (show acc.lookup ((m : Int) - 1) = some v by rw [← hcm]; exact hlx)
                obtain ⟨q, hqe, _, hgs, hcell, hfr, _⟩ := intE_at onm2 hq
                injection hqe with hqe
                injection hqe with hqe
                subst hqe
                obtain ⟨v0, v1⟩ := HOK.out _ _ hlx
                obtain ⟨nx, hnxe⟩ : ∃ nx : Int, nx = v + 1 := ⟨_, rfl⟩
                rw [← hnxe] at hcell
                have hFv : F (crI x) = some v := by rw [HF.out]; exact hlx
                have hn0 : (nx != 0) = true := by rw [bne_iff_ne]; omega
                by_cases hx0 : 0 < x
                · have hx1 : ¬ x < 0 := by omega
                  have HY : Hid (ys ++ [nx] = renRow F (xs.take (j + 1))) := hide (by rw [renRow_next hx, renX_up hFv hx0, ← hys.out, hnxe]; simp)
                  clear hx hlx hFv hq hcm hnxe
                  go_wp2_with (first
                    | (go_at_call 79; refine (l15Size_any _ _ hwn hwx).mono ?_; rintro e w' ⟨rfl, rfl⟩; rw [hm])
                    | (at_builtin; refine wpList_append_ints rfl (.tmp 71) (.tmp 73) rfl wo.heap.size A2 c2 ys rfl (owni.alloc _) (some ⟨wr.heap.size, 0, none⟩) 1 [nx] rfl (OwnI.new_ (base := 0) _ _ [nx] #[.int .i64 nx] (by simp) rfl (Nat.zero_le _) (by simp [maxLen])).rd (by simp; omega) (by simp; omega) (ys ++ [nx]) rfl ?_; intro A3 c3 w3 own3 hg3 hb3))
                  go_roundw
                  case rel => exact ⟨j + 1, A3, c3, ys ++ [nx], by omega, by go_num, by simp, HY, own3, (hBi.alloc hzi _).grown hg3 (by simp; omega) (fun q hq => (owni.ge hq).1)⟩
                  case measure => simp [intOf]; omega
                · have hx1 : x < 0 := by omega
                  have wneg : IntKind.i64.wrap (-nx) = -nx := by rw [IntKind.wrap_i64]; omega
                  have HY : Hid (ys ++ [-nx] = renRow F (xs.take (j + 1))) := hide (by rw [renRow_next hx, renX_down hFv hx0, ← hys.out, hnxe]; simp; omega)
                  clear hx hlx hFv hq hcm hnxe
                  go_wp2_with (first
                    | (go_at_call 79; refine (l15Size_any _ _ hwn hwx).mono ?_; rintro e w' ⟨rfl, rfl⟩; rw [hm])
                    | (at_builtin; refine wpList_append_ints rfl (.tmp 81) (.tmp 84) rfl wo.heap.size A2 c2 ys rfl (owni.alloc _) (some ⟨wr.heap.size, 0, none⟩) 1 [-nx] rfl (OwnI.new_ (base := 0) _ _ [-nx] #[.int .i64 (-nx)] (by simp) rfl (Nat.zero_le _) (by simp [maxLen])).rd (by simp; omega) (by simp; omega) (ys ++ [-nx]) rfl ?_; intro A3 c3 w3 own3 hg3 hb3))
                  go_roundw
                  case rel => exact ⟨j + 1, A3, c3, ys ++ [-nx], by omega, by go_num, by simp, HY, own3, (hBi.alloc hzi _).grown hg3 (by simp; omega) (fun q hq => (owni.ge hq).1)⟩
                  case measure => simp [intOf]; omega
            · have hys' := hys.out
              rw [List.take_of_length_le (by omega)] at hys'
              have HZ : Hid (zs ++ [ys] = renC F (code.take (k + 1))) := hide (by rw [renC_next HX.out, ← hzs.out, hys'])
              have own2 := own.below hBi
              have onm2 := (onm.below hBi).alloc (.cells #[.slice A2 ys.length c2] 65)
              have hB3 := hBB.alloc hBB.size (.cells #[.slice A2 ys.length c2] 65)
              clear hys hys'
              go_wp2_with (at_builtin; refine wpList_append_code rfl (.tmp 86) (.tmp 88) rfl (w.heap.size + 1) wo.heap.size A1 c1 zs rfl (own2.alloc _) (some ⟨wr.heap.size, 0, none⟩) 1 rfl A2 c2 ys (RG.fresh (E := hdE) wr _ rfl ⟨A2, ys.length, c2⟩ #[.slice A2 ys.length c2] rfl _) (owni.alloc _) hzo (by simp; omega) hzl (zs ++ [ys]) rfl ?_; intro A3 c3 w3 own3 hg3 hb3)
              have on3 := onm2.grown hg3 (.inr (fun e => by have := (own2.ge_ (g := w.heap.size) e.symm).1; omega))
              have hB4 := hB3.grown hg3 (by simp; omega) (fun q hq => by have := (own2.ge_ hq).1; omega)
              go_roundw
              case rel => exact ⟨k + 1, A3, c3, zs ++ [ys], by omega, by go_num, by simp, HZ, own3, on3, hB4⟩
              case measure => simp [intOf]; omega
        · have hzs' := hzs.out
          rw [List.take_of_length_le (by omega), HV.out] at hzs'
          have HZ := hide hzs'
          clear hzs hzs'
          go_wp2_with fail
          go_ret
          rw [← HZ.out]
          exact ⟨A1, c1, rfl, own.mono (by omega) (Nat.le_refl _), hB⟩
end Go.Proofs.YtocellbhpjiioaaGreat
