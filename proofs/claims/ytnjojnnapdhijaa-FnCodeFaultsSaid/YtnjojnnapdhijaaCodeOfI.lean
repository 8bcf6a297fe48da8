/-
  Contract: the code of a panel, of the program. Conditions: at most 1048576 breaks.
-/
import Derived.Test.YtnjojnnapdhijaaPassI
namespace Go.Proofs.Ytnjojnnapdhijaa
open Go.RowKit
set_option linter.unusedVariables false

/-- what CodeOf answers -/
noncomputable def codeR (wd ht : Int) (xs : List Int) : List (List Int) × Int := if vldPan wd ht xs = true then (if 40 < (curL wd ht xs).length then ([], 5) else (codN wd ht xs, 0)) else ([], 1)
theorem codeR_no {wd ht : Int} {xs : List Int} (h : vldPan wd ht xs = false) : codeR wd ht xs = ([], 1) := by unfold codeR; rw [if_neg (by rw [h]; simp)]
theorem codeR_big {wd ht : Int} {xs : List Int} (h : vldPan wd ht xs = true) (h2 : 40 < (curL wd ht xs).length) : codeR wd ht xs = ([], 5) := by unfold codeR; rw [if_pos h, if_pos h2]
theorem codeR_ok {wd ht : Int} {xs : List Int} (h : vldPan wd ht xs = true) (h2 : ¬ 40 < (curL wd ht xs).length) : codeR wd ht xs = (codN wd ht xs, 0) := by unfold codeR; rw [if_pos h, if_neg h2]
set_option maxRecDepth 20000 in
set_option maxHeartbeats 8000000 in
theorem codeOf_any (wd ht : Int) (A : Option Addr) (c : Nat) (xs : List Int) (w : World) (hxs : RI w A xs) (hcap : xs.length ≤ c ∧ c ≤ 9223372036854775807) (hn : xs.length ≤ 1048576) :
    Calls Try.prog 19 #[.agg #[.int .i64 wd, .int .i64 ht, .slice A xs.length c]] w (RetCC w (codeR wd ht xs).1 (codeR wd ht xs).2) := by
  have HV := hide (fun (W : World) (hb : Below w.heap.size w W) => validPanel_any wd ht A c xs W (hxs.below hb) hn)
  obtain ⟨pa_x1, pb_x1, pc_x1⟩ := (Bx.new_ w (w.heap.size) 36 #[.int .i64 wd, .int .i64 ht, .slice A xs.length c] (by simp)).three
  cases hv : vldPan wd ht xs
  · rw [hv] at HV
    have HR := hide (codeR_no hv)
    clear hv
    rw [HR.out]
    go_enter Try.func19, Try.ntmps19
    go_wp2_with fail
    refine ((HV.out _ ((Below.refl w.heap.size w).alloc (by first | omega | (simp; omega) | simp) (.cells #[.int .i64 wd, .int .i64 ht, .slice A xs.length c] 36)))).mono ?_
    rintro e w1 ⟨rfl, hb1⟩
    have p_1 := (Bx.new_ w (w.heap.size) 36 #[.int .i64 wd, .int .i64 ht, .slice A xs.length c] (by simp)).below hb1
    obtain ⟨pa_1, pb_1, pc_1⟩ := (p_1).three
    have z_1 : (w.alloc (.cells #[.int .i64 wd, .int .i64 ht, .slice A xs.length c] 36)).heap.size ≤ w1.heap.size := hb1.size
    simp only [World.size_alloc] at z_1
    have B_1 := ((Below.refl w.heap.size w).alloc (by first | omega | (simp; omega) | simp) (.cells #[.int .i64 wd, .int .i64 ht, .slice A xs.length c] 36)).trans (hb1.mono (by first | omega | (simp; omega) | simp))
    have HB := hide (B_1)
    go_wp2_with fail
    go_ret2
    exact ⟨none, 0, rfl, OwnC.nil _ _ _, HB.out⟩
  · rw [hv] at HV
    obtain ⟨v1, v2, hl, v4⟩ := vldPan_true hv
    have hs : Sz wd ht := ⟨(inB_true.1 v1).1, (inB_true.1 v1).2, (inB_true.1 v2).1, (inB_true.1 v2).2⟩
    have HTR := hide (fun (W : World) (hb : Below w.heap.size w W) => trace_any wd ht A c xs W (hxs.below hb) hs hl)
    have HPS := hide (fun (i : Nat) (cur : List Wk) (hc : (curL wd ht xs)[i]? = some cur) (b1 : Nat) (AW : Option Addr) (cW : Nat) (W : World) (hb : Below w.heap.size w W) (hcur : Own wkE W b1 AW cW cur) (hlen : cur.length ≤ 256) => passes_any wd ht A c xs b1 AW cW cur W (hxs.below hb) hcap hs hl hn hcur (fun x hx => cur_ok hs hc hx) hlen)
    have HLEN := hide (fun (i : Nat) (cur : List Wk) (hc : (curL wd ht xs)[i]? = some cur) => (show cur.length ≤ 256 ∧ (psL wd ht xs cur).length ≤ 256 by
      obtain ⟨j, hj, hcj, _, _⟩ := (trInv_all (xs := xs) hs).start i _ hc
      have h1 := psL_len (wd := wd) (ht := ht) (xs := xs) cur
      have h2 := (per_spec (xs := xs) hs (walkK_ok hs hj).1).2.2.1
      have h3 := (nSeg_int hs).2.1
      have h4 : cur.length = perW wd ht xs (walkK ht j) := by rw [hcj, orbW_len]
      omega))
    have HBD := hide (fun (i : Nat) (cur : List Wk) (hc : (curL wd ht xs)[i]? = some cur) (p : Int × Bool) (h : p ∈ psL wd ht xs cur) => psL_b hs hl hc h hn)
    have HNX := hide (fun (i : Nat) (cur : List Wk) (hc : (curL wd ht xs)[i]? = some cur) => codN_next (wd := wd) (ht := ht) (xs := xs) hc)
    have HCL : Hid ((codN wd ht xs).length = (curL wd ht xs).length) := hide codN_len
    obtain ⟨K, hK⟩ : ∃ K, K = (curL wd ht xs).length := ⟨_, rfl⟩
    have hcl : K ≤ 256 := by have h1 := (trInv_all (xs := xs) hs).cnt; have h2 := nSeg_int hs; simp only at h1; omega
    rw [← hK] at HCL
    have HK := hide hK
    by_cases h40 : 40 < K
    · have HR := hide (codeR_big hv (by rw [← hK]; exact h40))
      rw [HR.out]
      have hgt : (K : Int) > 40 := by omega
      clear hv v1 v2 hl v4 hs hK
      go_enter Try.func19, Try.ntmps19
      go_wp2_with fail
      refine ((HV.out _ ((Below.refl w.heap.size w).alloc (by first | omega | (simp; omega) | simp) (.cells #[.int .i64 wd, .int .i64 ht, .slice A xs.length c] 36)))).mono ?_
      rintro e w1 ⟨rfl, hb1⟩
      have p_1 := (Bx.new_ w (w.heap.size) 36 #[.int .i64 wd, .int .i64 ht, .slice A xs.length c] (by simp)).below hb1
      obtain ⟨pa_1, pb_1, pc_1⟩ := (p_1).three
      have z_1 : (w.alloc (.cells #[.int .i64 wd, .int .i64 ht, .slice A xs.length c] 36)).heap.size ≤ w1.heap.size := hb1.size
      simp only [World.size_alloc] at z_1
      have B_1 := ((Below.refl w.heap.size w).alloc (by first | omega | (simp; omega) | simp) (.cells #[.int .i64 wd, .int .i64 ht, .slice A xs.length c] 36)).trans (hb1.mono (by first | omega | (simp; omega) | simp))
      go_wp2_with fail
      refine (HTR.out _ (B_1)).mono ?_
      rintro e w2 ⟨AH, cH, A2, c2, hs, rfl, hh, hr, _, hb2⟩
      have hhl : hs.length = K := by rw [hr.len, ← HK.out]
      have HB := hide (((B_1)).trans (hb2.mono (by omega)))
      rw [hhl]
      clear hh hr hb2 hhl
      go_wp2_with fail
      go_ret2
      exact ⟨none, 0, rfl, OwnC.nil _ _ _, HB.out⟩
    · have HR := hide (codeR_ok hv (by rw [← hK]; exact h40))
      rw [HR.out]
      have hgt : ¬ (K : Int) > 40 := by omega
      clear hv v1 v2 hl v4 hs hK
      go_enter Try.func19, Try.ntmps19
      go_wp2_with fail
      refine ((HV.out _ ((Below.refl w.heap.size w).alloc (by first | omega | (simp; omega) | simp) (.cells #[.int .i64 wd, .int .i64 ht, .slice A xs.length c] 36)))).mono ?_
      rintro e w1 ⟨rfl, hb1⟩
      have p_1 := (Bx.new_ w (w.heap.size) 36 #[.int .i64 wd, .int .i64 ht, .slice A xs.length c] (by simp)).below hb1
      obtain ⟨pa_1, pb_1, pc_1⟩ := (p_1).three
      have z_1 : (w.alloc (.cells #[.int .i64 wd, .int .i64 ht, .slice A xs.length c] 36)).heap.size ≤ w1.heap.size := hb1.size
      simp only [World.size_alloc] at z_1
      have B_1 := ((Below.refl w.heap.size w).alloc (by first | omega | (simp; omega) | simp) (.cells #[.int .i64 wd, .int .i64 ht, .slice A xs.length c] 36)).trans (hb1.mono (by first | omega | (simp; omega) | simp))
      go_wp2_with fail
      refine (HTR.out _ (B_1)).mono ?_
      rintro e w2 ⟨AH, cH, A2, c2, hs, rfl, hh2, hr2, _, hb2⟩
      have hhl : hs.length = K := by rw [hr2.len, ← HK.out]
      have p_2 := (p_1).below hb2
      obtain ⟨pa_2, pb_2, pc_2⟩ := (p_2).three
      have z_2 : w1.heap.size ≤ w2.heap.size := hb2.size
      have B_2 := (B_1).trans (hb2.mono (by first | omega | (simp; omega) | simp))
      have HRR := hide hr2
      have HHH := hide hh2
      have hHL : Hid (hs.length = K) := hide hhl
      have HB2 := hide (B_2)
      have HP2 := hide p_2
      have hz2 := ((B_2)).size
      rw [hhl]
      have own0 : OwnC (w2.alloc (.cells #[] 34)) w2.heap.size (w2.alloc (.cells #[] 34)).heap.size (some ⟨w2.heap.size, 0, none⟩) 0 [] := (OwnC.empty_ w2 _ rfl (Nat.le_refl _)).mono (Nat.le_refl _) (by simp)
      have hB0 : Below w2.heap.size w2 (w2.alloc (.cells #[] 34)) := (Below.refl _ _).alloc (Nat.le_refl _) _
      clear hh2 hr2 hb2 p_1 B_1 hb1 z_1 p_2 B_2 z_2 hhl
      go_wp2_with fail
      go_loopw [6, 26] (fun o i wr => ∃ (k : Nat) (A1 : Option Addr) (c1 : Nat) (zs : List (List Int)), k ≤ K ∧ i = .int .i64 (k : Int) ∧ o = .slice A1 zs.length c1 ∧ zs.length ≤ k ∧ Hid (zs = (codN wd ht xs).take k) ∧ OwnC wr w2.heap.size wr.heap.size A1 c1 zs ∧ Below w2.heap.size w2 wr) (fun _ i _ => K - (intOf i).toNat)
      case atStart => exact ⟨0, _, 0, [], Nat.zero_le _, rfl, rfl, Nat.le_refl _, hide rfl, own0, hB0⟩
      case round =>
        clear own0 hB0
        obtain ⟨k, A1, c1, zs, hk, rfl, rfl, hzk, hzs, own, hB⟩ := hrel
        obtain ⟨wo, rfl⟩ : ∃ wo : World, wo = wr := ⟨_, rfl⟩
        have hz := hB.size
        by_cases hlt : k < K
        · obtain ⟨hd, cur, hdi, hoi, hdn, hro, hgt2⟩ := (HRR.out.below hB).at_ (k := k) (by rw [← HK.out]; exact hlt)
          obtain ⟨gh, hAh, hghb, hghs, hhc⟩ := hdE_cell (HHH.out.below hB) hdi
          have hll := HLEN.out k cur hoi
          have HB3 := hide (HBD.out k cur hoi)
          have HN := hide (HNX.out k cur hoi)
          have HCN : Hid (curN wd ht xs cur = (psL wd ht xs cur).map psN) := hide rfl
          have HPC := hide (fun (b1 : Nat) (AW : Option Addr) (cW : Nat) (W : World) (hb : Below w.heap.size w W) (hcur : Own wkE W b1 AW cW cur) => HPS.out k cur hoi b1 AW cW W hb hcur hll.1)
          obtain ⟨Ah, ch, hAc⟩ : ∃ Ah ch, Ah = hd.A ∧ ch = hd.c := ⟨_, _, rfl, rfl⟩
          rw [hdn, ← hAc.1, ← hAc.2] at hhc
          rw [← hAc.1, ← hAc.2] at hro
          obtain ⟨ps, hps⟩ : ∃ ps, ps = psL wd ht xs cur := ⟨_, rfl⟩
          rw [← hps] at HPC hll HB3 HCN
          have hBw := HB2.out.trans (hB.mono hz2)
          have hBa := hBw.alloc (Nat.le_trans hz2 hz) (.cells #[] 2)
          have hroa := hro.alloc (.cells #[] 2)
          have hPa := (HP2.out.below hB).alloc (.cells #[] 2)
          obtain ⟨pa_0, pb_0, pc_0⟩ := hPa.three
          have hll2 := hll.2
          have HPD := hide (HPC.out _ _ _ _ hBa hroa)
          have or0 := OwnI.empty_ wo (base := wo.heap.size) wo.heap.size rfl (Nat.le_refl _)
          have own2 := own.alloc (.cells #[] 2)
          have hBb := hB.alloc hz (.cells #[] 2)
          have hkh : (k : Int) < (K : Int) := by omega
          have hkl : k < hs.length := by rw [hHL.out]; exact hlt
          subst hAh
          obtain ⟨m0, hm0⟩ : ∃ m0, m0 = cur.length := ⟨_, rfl⟩
          rw [← hm0] at hhc HPD
          clear hps hoi hdi hdn hro hgt2 hAc hBw hroa hPa hll HPC own hB HPS hm0 hBa
          go_wp2_with fail
          refine HPD.out.mono ?_
          rintro e w3 ⟨A3, c3, rfl, op, hb3⟩
          have or3 := or0.below hb3
          have own3 := own2.below hb3
          have hB3 := hBb.trans (hb3.mono (by simp; omega))
          have hz3 := hb3.size
          rw [World.size_alloc] at hz3
          clear or0 own2 hBb HPD pa_0 pb_0 pc_0 hhc
          go_wp2_with fail
          go_loopw [9, 35] (fun o i wr => ∃ (m : Nat) (A4 : Option Addr) (c4 : Nat) (ys : List Int), m ≤ ps.length ∧ i = .int .i64 (m : Int) ∧ o = .slice A4 ys.length c4 ∧ ys.length ≤ m ∧ Hid (ys = (ps.take m).map psN) ∧ OwnI wr wo.heap.size A4 c4 ys ∧ Own psE wr wo.heap.size A3 c3 ps ∧ OwnC wr w2.heap.size wo.heap.size A1 c1 zs ∧ wo.heap.size ≤ wr.heap.size ∧ Below w2.heap.size w2 wr) (fun _ i _ => ps.length - (intOf i).toNat)
          case atStart => exact ⟨0, _, 0, [], Nat.zero_le _, rfl, rfl, Nat.le_refl _, hide rfl, or3, op.mono (by simp), own3, by omega, hB3⟩
          case round =>
            clear or3 op own3 hB3 hz3 hb3
            obtain ⟨m, A4, c4, ys, hm, rfl, rfl, hym, hys, oy, op, own, hzo, hB⟩ := hrel
            have hzB := hB.size
            by_cases hlt2 : m < ps.length
            · obtain ⟨gp, offp, p, hA2, hgp, hpx, hcp⟩ := op.rd.row hlt2
              have hcp0 : wr.cell? ⟨gp, offp + m * 2, none⟩ = some (.int .i64 p.1) := hcp 0 _ rfl
              have hcp1 : wr.cell? ⟨gp, offp + m * 2 + 1, none⟩ = some (.bool p.2) := hcp 1 _ rfl
              have hpb := HB3.out p (List.mem_of_getElem? hpx)
              subst hA2
              have HNY : Hid (ys ++ [psN p] = (ps.take (m + 1)).map psN) := hide (by rw [List.take_add_one, hpx, List.map_append, ← hys.out]; rfl)
              obtain ⟨p1, p2⟩ := p
              simp only at hcp0 hcp1 hpb
              have bx : Bx (wr.alloc (.cells #[.int .i64 p1, .bool p2] 81)) wr.heap.size 81 #[.int .i64 p1, .bool p2] := Bx.new _ _ _
              have HALL := hide (And.intro (oy.alloc (.cells #[.int .i64 p1, .bool p2] 81)) (And.intro (op.alloc (.cells #[.int .i64 p1, .bool p2] 81)) (And.intro (own.alloc (.cells #[.int .i64 p1, .bool p2] 81)) (hB.alloc hzB (.cells #[.int .i64 p1, .bool p2] 81)))))
              obtain ⟨bxa, bxb⟩ := bx.two
              have hoge : ∀ q, blk A4 = some q → wo.heap.size ≤ q := fun q hq => (oy.ge hq).1
              have HGE := hide hoge
              have hyl : ys.length ≤ 256 := by omega
              clear hcp hpx hys oy op own hB bx hoge
              rcases p2 with _ | _
              · have HPN : Hid (psN (p1, false) = -p1 - 1) := hide (by show -(p1 + 1) = -p1 - 1; omega)
                rw [HPN.out] at HNY
                obtain ⟨oy, op, own, hB⟩ := HALL.out
                have hnr : RI ((wr.alloc (.cells #[.int .i64 p1, .bool false] 81)).alloc (.cells #[.int .i64 (-p1 - 1)] 2)) (some ⟨wr.heap.size + 1, 0, none⟩) [-p1 - 1] := by
                  have h := (OwnI.new (base := 0) (wr.alloc (.cells #[.int .i64 p1, .bool false] 81)) [-p1 - 1] #[.int .i64 (-p1 - 1)] rfl (Nat.zero_le _) (by simp [maxLen])).rd
                  rw [World.size_alloc] at h
                  exact h
                have hw1 : IntKind.i64.wrap (-p1 - 1) = -p1 - 1 := by rw [IntKind.wrap_i64]; omega
                go_wp2_with (at_builtin; refine wpList_append_ints rfl (.tmp 47) (.tmp 52) rfl wo.heap.size A4 c4 ys rfl (oy.alloc _) (some ⟨wr.heap.size + 1, 0, none⟩) 1 [-p1 - 1] rfl hnr (by simp; omega) (by simp; omega) (ys ++ [-p1 - 1]) rfl ?_; intro A5 c5 w5 own5 hg5 hb5)
                go_roundw
                case rel => exact ⟨m + 1, A5, c5, _, by omega, by go_num, by simp, by simp; omega, HNY, own5, (op.alloc _).grownInts hg5 (oy.alloc _) (by decide), (own.alloc _).setGrown_ hg5 (by simp; omega) (fun b h1 h2 e => by have := HGE.out _ e.symm; omega), Nat.le_trans (by simp; omega) hg5.size, (hB.alloc (by simp; omega) _).grown hg5 (by simp; omega) (fun q hq => by have := HGE.out _ hq; omega)⟩
                case measure => simp [intOf]; omega
              · have HPN : Hid (psN (p1, true) = p1 + 1) := hide rfl
                rw [HPN.out] at HNY
                obtain ⟨oy, op, own, hB⟩ := HALL.out
                have hnr : RI ((wr.alloc (.cells #[.int .i64 p1, .bool true] 81)).alloc (.cells #[.int .i64 (p1 + 1)] 2)) (some ⟨wr.heap.size + 1, 0, none⟩) [p1 + 1] := by
                  have h := (OwnI.new (base := 0) (wr.alloc (.cells #[.int .i64 p1, .bool true] 81)) [p1 + 1] #[.int .i64 (p1 + 1)] rfl (Nat.zero_le _) (by simp [maxLen])).rd
                  rw [World.size_alloc] at h
                  exact h
                have hw1 : IntKind.i64.wrap (p1 + 1) = p1 + 1 := by rw [IntKind.wrap_i64]; omega
                go_wp2_with (at_builtin; refine wpList_append_ints rfl (.tmp 41) (.tmp 45) rfl wo.heap.size A4 c4 ys rfl (oy.alloc _) (some ⟨wr.heap.size + 1, 0, none⟩) 1 [p1 + 1] rfl hnr (by simp; omega) (by simp; omega) (ys ++ [p1 + 1]) rfl ?_; intro A5 c5 w5 own5 hg5 hb5)
                go_roundw
                case rel => exact ⟨m + 1, A5, c5, _, by omega, by go_num, by simp, by simp; omega, HNY, own5, (op.alloc _).grownInts hg5 (oy.alloc _) (by decide), (own.alloc _).setGrown_ hg5 (by simp; omega) (fun b h1 h2 e => by have := HGE.out _ e.symm; omega), Nat.le_trans (by simp; omega) hg5.size, (hB.alloc (by simp; omega) _).grown hg5 (by simp; omega) (fun q hq => by have := HGE.out _ hq; omega)⟩
                case measure => simp [intOf]; omega
            · have hmp : m = ps.length := by omega
              have hy2 := hys.out
              rw [hmp, List.take_of_length_le (Nat.le_refl _), ← HCN.out] at hy2
              have HZ : Hid (zs ++ [ys] = (codN wd ht xs).take (k + 1)) := hide (by rw [HN.out, hy2, ← hzs.out])
              have hwo : w2.heap.size ≤ wo.heap.size := hz
              clear hys hy2 hmp hzs
              go_wp2_with (at_builtin; refine wpList_append_code rfl (.tmp 55) (.tmp 57) rfl w2.heap.size wo.heap.size A1 c1 zs rfl (own.alloc _) (some ⟨wr.heap.size, 0, none⟩) 1 rfl A4 c4 ys (RG.fresh (E := hdE) wr _ rfl ⟨A4, ys.length, c4⟩ #[.slice A4 ys.length c4] rfl _) (oy.alloc _) hwo (by simp; omega) (by omega) (zs ++ [ys]) rfl ?_; intro A5 c5 w5 own5 hg5 hb5)
              go_roundw
              case rel => exact ⟨k + 1, A5, c5, zs ++ [ys], by omega, by go_num, by simp, by simp; omega, HZ, own5, (hB.alloc hzB _).grown hg5 (by simp; omega) (fun q hq => (own.ge_' hq).1)⟩
              case measure => simp [intOf]; omega
        · have hkk : k = K := by omega
          have hz2' := hzs.out
          rw [List.take_of_length_le (by rw [HCL.out]; omega)] at hz2'
          have HZ := hide hz2'
          have HF := hide (And.intro (own.mono hz2 (Nat.le_refl _)) (HB2.out.trans (hB.mono hz2)))
          clear hzs hz2' hkk own hB
          go_wp2_with fail
          go_ret2
          have := HZ.out
          subst this
          exact ⟨A1, c1, rfl, HF.out.1, HF.out.2⟩
end Go.Proofs.Ytnjojnnapdhijaa
