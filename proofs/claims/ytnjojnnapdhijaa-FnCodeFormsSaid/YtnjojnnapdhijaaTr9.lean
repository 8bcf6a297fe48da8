/-
  Contract: the tracing of all curves of a panel, of the reference. Conditions: a valid panel's sides and breaks.
-/
import Derived.Test.YtnjojnnapdhijaaTr8
namespace Go.Proofs.Ytnjojnnapdhijaa
open Go.RowKit
set_option linter.unusedVariables false

/-- What the tracing of all curves hands back: as many rows as curves, and the owners of the segments. -/
def RetAll (wd ht : Int) (xs : List Int) (w : World) (e : Ending) (w' : World) : Prop :=
  ∃ A c B d, e = .returned (.tuple #[.slice A (curL wd ht xs).length c, .slice B (ownL wd ht xs).length d]) ∧ OwnI w' w.heap.size B d (ownL wd ht xs) ∧ Below w.heap.size w w'

set_option maxRecDepth 20000 in
set_option maxHeartbeats 8000000 in
theorem l04All_any (b0 : Nat) (wd ht : Int) (A : Option Addr) (c : Nat) (xs : List Int) (w : World) (hp : PA w b0 wd ht A c xs) (hs : Sz wd ht) (hl : (xs.length : Int) = innerN wd ht) :
    Calls Try.prog 153 #[.pointer (some ⟨b0, 0, none⟩)] w (RetAll wd ht xs w) := by
  have hns := nSeg_int hs
  have hn1 := hns.2.1
  have HL := hide hl
  have HS := hide hs
  have hmk := fun W : World => run_make_i64 (nSeg wd ht) (by omega) W
  obtain ⟨N, hN⟩ : ∃ N, N = nSeg wd ht := ⟨_, rfl⟩
  rw [← hN] at hmk hn1 hns
  have HN := hide hN
  have HV := hide hns.1
  have hm4 : 0 ≤ 4 * wd ∧ 4 * wd ≤ 32 := by obtain ⟨s1, s2, s3, s4⟩ := hs; omega
  have hm5 : 0 ≤ 4 * wd * ht ∧ 4 * wd * ht ≤ 256 := by omega
  have c0 := hp.c0
  have c1 := hp.c1
  clear hns hN hs hl
  go_enter Try.func153, Try.ntmps153
  go_wp2_with fail
  go_quiet (fail)
  rename Nat => n1
  rw [← HV.out]
  have hBn := below_drewN' (Below.refl w.heap.size w) n1
  have how := OwnI.made (w.drewN n1) (base := w.heap.size) w.heap.size (m := N) rfl (Nat.le_refl _) (by omega)
  have hB0 := hBn.alloc (Nat.le_refl _) (.cells (madeCells #[.int .i64 0] N) 2)
  have HF : Hid (List.replicate N 0 = fillTo N 0) := hide (fillTo_zero N).symm
  rw [HF.out] at how
  clear hBn c0 c1
  go_wp2_with fail
  go_loopw [6] (fun i wr => ∃ (k : Nat), k ≤ N ∧ i = .int .i64 (k : Int) ∧ OwnI wr w.heap.size (some ⟨w.heap.size, 0, none⟩) N (fillTo N k) ∧ w.heap.size + 1 ≤ wr.heap.size ∧ Below w.heap.size w wr) (fun i _ => N - (intOf i).toNat)
  case atStart => exact ⟨0, Nat.zero_le _, rfl, how, by simp, hB0⟩
  case round =>
    clear how hB0
    obtain ⟨k, hk, rfl, own, hzz, hB⟩ := hrel
    by_cases hlt : k < N
    · obtain ⟨g, x, hA, hgb, hgs, hx, hgc, hgf, hst⟩ := own.at_ (k := k) (by rw [fillTo_len hk]; exact hlt)
      injection hA with hA; injection hA with hA; subst hA
      have hs1 := (hst (-1)).1
      rw [fillTo_set hlt] at hs1
      have hB1 := below_mark hB own (hst (-1)).2 (Nat.le_refl _) hB.size
      clear hst hx own hB
      go_wp2_with fail
      go_roundw
      case rel => exact ⟨k + 1, by omega, by go_num, hs1, by simp; omega, hB1⟩
      case measure => simp [intOf]; omega
    · obtain rfl : N = k := by omega
      have hT0 : fillTo N N = (trTo wd ht xs 0).1 := by rw [fillTo_all, HN.out]; rfl
      rw [hT0] at own
      clear hT0 hlt hk
      have hout := Own.new_ (E := hdP) wr (base := w.heap.size) wr.heap.size [] #[] rfl rfl hB.size (by simp)
      have own2 := own.alloc (.cells #[] 159)
      have hB2 := hB.alloc hB.size (.cells #[] 159)
      have hz2 : w.heap.size + 1 ≤ (wr.alloc (.cells #[] 159)).heap.size := by simp; omega
      go_wp2_with fail
      go_loopw [8, 7] (fun i cv wr => ∃ (k : Nat) (A1 : Option Addr) (c1 : Nat) (hs : List Hd), k ≤ N ∧ i = .int .i64 (k : Int) ∧ cv = .slice A1 hs.length c1 ∧ Hid (hs.length = (trTo wd ht xs k).2.length) ∧ OwnI wr w.heap.size (some ⟨w.heap.size, 0, none⟩) N (trTo wd ht xs k).1 ∧ Own hdP wr w.heap.size A1 c1 hs ∧ w.heap.size + 1 ≤ wr.heap.size ∧ Below w.heap.size w wr) (fun i _ _ => N - (intOf i).toNat)
      case atStart => exact ⟨0, _, 0, [], Nat.zero_le _, rfl, rfl, hide rfl, own2, hout, hz2, hB2⟩
      case round =>
        clear own2 hout hB2 hz2 own hB hzz
        obtain ⟨wo, rfl⟩ : ∃ wo, wo = wr := ⟨_, rfl⟩
        obtain ⟨k, A1, c1, hs, hk, rfl, rfl, hhl, own, hcv, hzz, hB⟩ := hrel
        have hz := hB.size
        by_cases hlt : k < N
        · have hkn : k < nSeg wd ht := by rw [← HN.out]; exact hlt
          have htl := hide (tr_len (xs := xs) HS.out (k := k) (by omega))
          obtain ⟨g, v, hA, hgb, hgs, hv, hgc, hgf, _⟩ := own.at_ (k := k) (by rw [htl.out.1]; exact hkn)
          injection hA with hA; injection hA with hA; subst hA
          by_cases h0 : 0 ≤ v
          · have HT := hide (tr_skip hv h0)
            have d0 : decide (v ≥ 0) = true := by simpa using h0
            clear hv
            go_wp2_with fail
            go_roundw
            case rel => exact ⟨k + 1, A1, c1, hs, by omega, by go_num, rfl, by rw [HT.out]; exact hhl, by rw [HT.out]; exact own, hcv, hzz, hB⟩
            case measure => simp [intOf]; omega
          · have d0 : decide (v ≥ 0) = false := by simpa using h0
            have HNEW := hide (tr_new (wd := wd) hv h0)
            have hwk := (walkK_ok HS.out hkn).1
            have hp3 := (per_spec (xs := xs) HS.out hwk).2.2.1
            have HOL := hide (orbW_len (wd := wd) (ht := ht) (xs := xs) (walkK ht k))
            have HMEM := hide (fun x hx => (segN_int HS.out (orbW_ok (wd := wd) (ht := ht) (xs := xs) hwk (x := x) hx)).2)
            obtain ⟨a, ha⟩ : ∃ a, a = walkK ht k := ⟨_, rfl⟩
            have HWA := hide (fun (W : World) (hb : Below w.heap.size w W) => l03Walker_any b0 wd ht A c xs k W (hp.below hb) HS.out hkn)
            have HT1 := hide (fun (W : World) (hb : Below w.heap.size w W) => l04Trace_any b0 wd ht A c xs (walkK ht k) W (hp.below hb) HS.out HL.out hwk)
            rw [← ha] at hp3 HOL HMEM HNEW HWA HT1
            obtain ⟨P, hP⟩ : ∃ P, P = perW wd ht xs a := ⟨_, rfl⟩
            rw [← hP] at hp3 HOL HT1
            obtain ⟨orb, ho⟩ : ∃ o, o = orbW wd ht xs a := ⟨_, rfl⟩
            rw [← ho] at HOL HMEM HNEW HT1
            obtain ⟨TL, hTL⟩ : ∃ t, t = (trTo wd ht xs k).1 := ⟨_, rfl⟩
            rw [← hTL] at own HNEW
            have hP2 : P ≤ 256 := by have := HN.out; omega
            have hsl : hs.length ≤ 256 := by have := htl.out.2; rw [hhl.out]; omega
            have HTL : Hid (TL.length = N) := hide (by rw [hTL, htl.out.1, HN.out])
            clear ha hP ho hTL hp3 hwk hv h0
            go_wp2_with fail
            refine ((HWA.out _ hB)).mono ?_
            rintro e w3 ⟨rfl, hb3⟩
            have own_3 := (own).below hb3
            have hcv_3 := (hcv).below hb3
            have z_3 : wo.heap.size ≤ w3.heap.size := hb3.size
            have B_3 := (Below.refl wo.heap.size wo).trans (hb3.mono (by first | omega | (simp; omega) | simp))
            have hB3 := hB.trans (((B_3)).mono hz)
            go_wp2_with fail
            refine (HT1.out _ hB3).mono ?_
            rintro e w4 ⟨A4, cc4, B4, d4, rfl, sg, hb4⟩
            have own_4 := (own_3).below hb4
            have hcv_4 := (hcv_3).below hb4
            have z_4 : w3.heap.size ≤ w4.heap.size := hb4.size
            have B_4 := (B_3).trans (hb4.mono (by first | omega | (simp; omega) | simp))
            have hB4 := hB.trans (((B_4)).mono hz)
            have own4 := (own_4)
            have hcv4 := (hcv_4)
            have hsgl := segsL_len ht orb
            have HSG : Hid ((segsL ht orb).length = P) := hide (by rw [hsgl, HOL.out])
            obtain ⟨ss, hss⟩ : ∃ ss, ss = segsL ht orb := ⟨_, rfl⟩
            rw [← hss] at sg HSG
            have HSS := hide hss
            have hz4 : wo.heap.size ≤ w4.heap.size := by omega
            clear hsgl hss own hcv own_3 hcv_3 own_4 hcv_4 hgs hgc hgf hgb hB3
            rw [← HSS.out]
            go_wp2_with fail
            go_loopw [11] (fun iv wr => ∃ (i : Nat), i ≤ P ∧ iv = .int .i64 (i : Int) ∧ OwnI wr w.heap.size (some ⟨w.heap.size, 0, none⟩) N (markL ht TL (orb.take i) (hs.length : Int)) ∧ Own hdP wr w.heap.size A1 c1 hs ∧ OwnI wr w3.heap.size B4 d4 ss ∧ wo.heap.size ≤ wr.heap.size ∧ Below w.heap.size w wr) (fun iv _ => P - (intOf iv).toNat)
            case atStart => exact ⟨0, Nat.zero_le _, rfl, own4, hcv4, sg, hz4, hB4⟩
            case round =>
              clear own4 hcv4 sg hz4 hB4
              obtain ⟨i, hi, rfl, own, hcv, sg, hzo, hB⟩ := hrel
              have hz := hB.size
              have hmt : (markL ht TL (orb.take i) (hs.length : Int)).length = N := by rw [markL_len]; exact HTL.out
              have HMT := hide hmt
              clear hmt
              by_cases hlt2 : i < P
              · obtain ⟨x, hx⟩ : ∃ x, orb[i]? = some x := ⟨_, List.getElem?_eq_getElem (by rw [HOL.out]; exact hlt2)⟩
                have hsN : segN ht x < N := by rw [HN.out]; exact HMEM.out x (List.mem_of_getElem? hx)
                have hsx : ss[i]? = some ((segN ht x : Nat) : Int) := by rw [HSS.out, segsL, List.getElem?_map, hx]; rfl
                have HMN := hide (markL_next (ht := ht) (m := (hs.length : Int)) TL hx)
                clear hx
                obtain ⟨g5, y5, rfl, hgb5, hgs5, hy5, hgc5, hgf5, _⟩ := sg.at_ (k := i) (by rw [HSG.out]; exact hlt2)
                obtain rfl : y5 = ((segN ht x : Nat) : Int) := by rw [hsx] at hy5; injection hy5 with h; exact h.symm
                obtain ⟨g, v4, hA, hgb, hgs, hv4, hgc, hgf, hst⟩ := own.at_ (k := segN ht x) (by rw [HMT.out]; exact hsN)
                injection hA with hA; injection hA with hA; subst hA
                have hs5 := hst (hs.length : Int)
                rw [← HMN.out] at hs5
                have hcv6 := hcv.grownInts hs5.2 own (by decide)
                have sg6 := sg.grown hs5.2 (.inr (blk_ne (by omega)))
                have hB6 := below_mark hB own hs5.2 (Nat.le_refl _) hz
                have hiS : (i : Int) < (ss.length : Int) := by rw [HSG.out]; omega
                have hiS2 : i < ss.length := by omega
                have hsS : ss.length ≤ 256 := by rw [HSG.out]; exact hP2
                clear hv4 hst hsx hy5
                go_wp2_with fail
                go_roundw
                case rel => exact ⟨i + 1, by omega, by go_num, hs5.1, hcv6, sg6, by simp; omega, hB6⟩
                case measure => simp [intOf]; omega
              · obtain rfl : P = i := by omega
                have hiS : ¬ ((P : Int) < (ss.length : Int)) := by rw [HSG.out]; omega
                have hsS : ss.length ≤ 256 := by rw [HSG.out]; exact hP2
                have hiS2 : ¬ P < ss.length := by omega
                have HZP : Hid (orb.take P = orb) := hide (List.take_of_length_le (by rw [HOL.out]; exact Nat.le_refl _))
                rw [HZP.out] at own
                go_wp2_with (at_builtin; refine wpList_append_row hdP rfl (.tmp 65) (.tmp 67) rfl w.heap.size A1 c1 hs rfl (hcv.alloc _) (some ⟨wr.heap.size, 0, none⟩) 1 [⟨A4, P, cc4⟩] rfl (RG.fresh (E := hdP) _ _ rfl ⟨A4, P, cc4⟩ #[.slice A4 P cc4] rfl _) (by simp; omega) (by simp [hdP]; omega) (by simp; omega) (hs ++ [⟨A4, P, cc4⟩]) rfl ?_; intro A7 c7 w7 hcv7 hg7 hb7)
                have own7 := (own.alloc (.cells #[.slice A4 P cc4] 159)).grownOther hg7 (hcv.alloc _) (by decide)
                have hB7 := (hB.alloc (by omega) _).grown hg7 (by simp; omega) (fun q hq => (hcv.ge hq).1)
                have hz7 := hg7.size
                simp only [World.size_alloc] at hz7
                go_roundw
                case rel => exact ⟨k + 1, A7, c7, hs ++ [⟨A4, P, cc4⟩], by omega, by go_num, by simp, hide (by rw [HNEW.out, List.length_append, List.length_append, hhl.out]; rfl), by rw [HNEW.out, ← hhl.out]; exact own7, hcv7, by omega, hB7⟩
                case measure => simp [intOf]; omega
        · obtain rfl : N = k := by omega
          have HO : Hid (ownL wd ht xs = (trTo wd ht xs N).1) := hide (by unfold ownL; rw [HN.out])
          have HC : Hid ((curL wd ht xs).length = hs.length) := hide (by unfold curL; rw [hhl.out, HN.out])
          have HOL : Hid ((ownL wd ht xs).length = N) := hide (by rw [HO.out, HN.out]; exact (tr_len HS.out (Nat.le_refl _)).1)
          clear hlt
          go_wp2_with fail
          go_ret2
          exact ⟨A1, c1, some ⟨w.heap.size, 0, none⟩, N, by rw [HOL.out, HC.out]; rfl, by rw [HO.out]; exact own, hB⟩
end Go.Proofs.Ytnjojnnapdhijaa
