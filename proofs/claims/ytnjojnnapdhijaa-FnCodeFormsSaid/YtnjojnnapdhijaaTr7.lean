/-
  Contract: the tracing of a panel, of the program. Conditions: a valid panel's sides and breaks.
-/
import Derived.Test.YtnjojnnapdhijaaTr6
import Derived.Test.YtnjojnnapdhijaaRowsG
import Derived.Test.YtnjojnnapdhijaaTrMath3
namespace Go.Proofs.Ytnjojnnapdhijaa
open Go.RowKit
set_option linter.unusedVariables false

theorem markL_snoc {ht m : Int} (o : List Int) (c : List Wk) (x : Wk) : markL ht o (c ++ [x]) m = (markL ht o c m).set (segN ht x) m := by
  unfold markL
  rw [List.foldl_append]
  rfl
/-- k entries filled -/
def fillTo (n k : Nat) : List Int := List.replicate k (-1) ++ List.replicate (n - k) 0
theorem fillTo_len {n k : Nat} (h : k ≤ n) : (fillTo n k).length = n := by simp [fillTo]; omega
theorem fillTo_set {n k : Nat} (h : k < n) : (fillTo n k).set k (-1) = fillTo n (k + 1) := by
  unfold fillTo
  apply List.ext_getElem?
  intro j
  by_cases e : k = j
  · subst e
    rw [List.getElem?_set_self (by simp; omega), List.getElem?_append_left (by simp), List.getElem?_replicate, if_pos (by omega)]
  · rw [List.getElem?_set_ne e]
    simp only [List.getElem?_append, List.length_replicate, List.getElem?_replicate]
    by_cases h1 : j < k
    · rw [if_pos h1, if_pos h1, if_pos (show j < k + 1 by omega), if_pos (show j < k + 1 by omega)]
    · rw [if_neg h1, if_neg (show ¬ j < k + 1 by omega)]
      by_cases h2 : j - k < n - k
      · rw [if_pos h2, if_pos (show j - (k + 1) < n - (k + 1) by omega)]
      · rw [if_neg h2, if_neg (show ¬ j - (k + 1) < n - (k + 1) by omega)]
theorem fillTo_all (n : Nat) : fillTo n n = List.replicate n (-1) := by simp [fillTo]
theorem fillTo_zero (n : Nat) : fillTo n 0 = List.replicate n 0 := by simp [fillTo]

section
variable {wd ht : Int} {xs : List Int}
theorem tr_len (hs : Sz wd ht) {k : Nat} (hk : k ≤ nSeg wd ht) : (trTo wd ht xs k).1.length = nSeg wd ht ∧ (trTo wd ht xs k).2.length ≤ k := ⟨(trInv_to hs k hk).len, (trInv_to hs k hk).cnt⟩
theorem tr_skip {k : Nat} {v : Int} (hv : (trTo wd ht xs k).1[k]? = some v) (h : 0 ≤ v) : trTo wd ht xs (k + 1) = trTo wd ht xs k := by
  rw [trTo, trStep, if_pos (by rw [List.getD_eq_getElem?_getD, hv]; exact h)]
theorem tr_new {k : Nat} {v : Int} (hv : (trTo wd ht xs k).1[k]? = some v) (h : ¬ 0 ≤ v) : trTo wd ht xs (k + 1) = (markL ht (trTo wd ht xs k).1 (orbW wd ht xs (walkK ht k)) (trTo wd ht xs k).2.length, (trTo wd ht xs k).2 ++ [orbW wd ht xs (walkK ht k)]) := by
  rw [trTo, trStep, if_neg (by rw [List.getD_eq_getElem?_getD, hv]; exact h)]
/-- on the way round, the segment ahead is not yet of a curve -/
theorem tr_free (hs : Sz wd ht) {k : Nat} (hk : k < nSeg wd ht) {v : Int} (hv : (trTo wd ht xs k).1[k]? = some v) (h : ¬ 0 ≤ v) {i : Nat} (hi : i < perW wd ht xs (walkK ht k)) (m : Int) :
    (markL ht (trTo wd ht xs k).1 ((orbW wd ht xs (walkK ht k)).take i) m)[segN ht (itW wd ht xs i (walkK ht k))]? = some (-1) := by
  have hT := trInv_to (xs := xs) hs k (by omega)
  obtain ⟨h1, h2⟩ := walkK_ok hs hk
  obtain ⟨p1, p2, p3, p4⟩ := per_spec (xs := xs) hs h1
  rw [markL_out]
  · rw [hT.along h1 i, h2, hv]
    have := (hT.rng k v hv).1
    rw [show v = -1 by omega]
  · intro x hx e
    obtain ⟨j, hj⟩ := List.mem_iff_getElem?.1 hx
    rw [List.getElem?_take] at hj
    split at hj
    · rename_i hji
      rw [orbW_at _ (by omega)] at hj
      injection hj with hj
      subst hj
      refine seg_distinct hs h1 (n := perW wd ht xs (walkK ht k)) p4 hji hi ?_
      rw [← (segN_int hs (okW_it h1 j)).1, ← (segN_int hs (okW_it h1 i)).1, e]
    · cases hj
/-- back at the beginning it is -/
theorem tr_done (hs : Sz wd ht) {k : Nat} (hk : k < nSeg wd ht) (m : Int) :
    (markL ht (trTo wd ht xs k).1 ((orbW wd ht xs (walkK ht k)).take (perW wd ht xs (walkK ht k))) m)[segN ht (itW wd ht xs (perW wd ht xs (walkK ht k)) (walkK ht k))]? = some m := by
  have hT := trInv_to (xs := xs) hs k (by omega)
  obtain ⟨h1, h2⟩ := walkK_ok hs hk
  obtain ⟨p1, p2, p3, p4⟩ := per_spec (xs := xs) hs h1
  rw [p2, List.take_of_length_le (by rw [orbW_len]; exact Nat.le_refl _)]
  exact markL_in _ _ (orbW_mem.2 ⟨0, p1, rfl⟩) (by rw [hT.len]; exact (segN_int hs h1).2)
end

/-- What tracing hands back: the curves and the owners of the segments. -/
def RetTr /- 74 -/ (wd ht : Int) (xs : List Int) (w : World) (e : Ending) (w' : World) : Prop :=
  ∃ A c B d hs, e = .returned (.tuple #[.slice A hs.length c, .slice B (ownL wd ht xs).length d]) ∧ Own hdW w' w.heap.size A c hs ∧ RowsG wkE w' w.heap.size w'.heap.size hs (curL wd ht xs) ∧ OwnI w' w.heap.size B d (ownL wd ht xs) ∧ Below w.heap.size w w'

set_option maxRecDepth 20000 in
set_option maxHeartbeats 8000000 in
theorem trace_any (wd ht : Int) (A : Option Addr) (c : Nat) (xs : List Int) (w : World) (hxs : RI w A xs) (hs : Sz wd ht) (hl : (xs.length : Int) = innerN wd ht) :
    Calls Try.prog 68 #[.agg #[.int .i64 wd, .int .i64 ht, .slice A xs.length c]] w (RetTr wd ht xs w) := by
  have hseg := hide (fun W => segments_any wd ht A c xs W hs)
  have hns := nSeg_int hs
  have hn1 := hns.2.1
  have HL := hide hl
  have HS := hide hs
  have hmk := fun W : World => run_make_i64 (nSeg wd ht) (by omega) W
  obtain ⟨N, hN⟩ : ∃ N, N = nSeg wd ht := ⟨_, rfl⟩
  rw [← hN] at hseg hmk hn1
  have HN := hide hN
  clear hns hN hs hl
  obtain ⟨pa_x1, pb_x1, pc_x1⟩ := (Bx.new_ w (w.heap.size) 36 #[.int .i64 wd, .int .i64 ht, .slice A xs.length c] (by simp)).three
  have hcv := Own.new_ (E := hdW) (w.alloc (.cells #[.int .i64 wd, .int .i64 ht, .slice A xs.length c] 36)) (base := w.heap.size) (w.heap.size + 1) [] #[] (by simp) rfl (by simp) (by simp)
  go_enter Try.func68, Try.ntmps68
  go_wp2_with fail
  refine ((hseg.out _)).mono ?_
  rintro e w1 ⟨rfl, hb1⟩
  have p_1 := ((Bx.new_ w (w.heap.size) 36 #[.int .i64 wd, .int .i64 ht, .slice A xs.length c] (by simp)).alloc (.cells #[] 77)).below hb1
  obtain ⟨pa_1, pb_1, pc_1⟩ := (p_1).three
  have cv_1 := (hcv).below hb1
  have z_1 : ((w.alloc (.cells #[.int .i64 wd, .int .i64 ht, .slice A xs.length c] 36)).alloc (.cells #[] 77)).heap.size ≤ w1.heap.size := hb1.size
  simp only [World.size_alloc] at z_1
  have B_1 := (((Below.refl w.heap.size w).alloc (by first | omega | (simp; omega) | simp) (.cells #[.int .i64 wd, .int .i64 ht, .slice A xs.length c] 36)).alloc (by first | omega | (simp; omega) | simp) (.cells #[] 77)).trans (hb1.mono (by first | omega | (simp; omega) | simp))
  have how := OwnI.made w1 (base := w.heap.size) w1.heap.size (m := N) rfl (by omega) (by omega)
  have hB0 := ((B_1)).alloc (by omega) (.cells (madeCells #[.int .i64 0] N) 2)
  have hcv0 := ((cv_1)).alloc (.cells (madeCells #[.int .i64 0] N) 2)
  have hp0 := ((p_1)).alloc (.cells (madeCells #[.int .i64 0] N) 2)
  have HF : Hid (List.replicate N 0 = fillTo N 0) := hide (fillTo_zero N).symm
  rw [HF.out] at how
  clear hcv
  go_wp2_with fail
  go_loopw [16] (fun i wr => ∃ (k : Nat), k ≤ N ∧ i = .int .i64 (k : Int) ∧ OwnI wr w.heap.size (some ⟨w1.heap.size, 0, none⟩) N (fillTo N k) ∧ Own hdW wr w.heap.size (some ⟨w.heap.size + 1, 0, none⟩) 0 [] ∧ Bx wr w.heap.size 36 #[.int .i64 wd, .int .i64 ht, .slice A xs.length c] ∧ Below w.heap.size w wr) (fun i _ => N - (intOf i).toNat)
  case atStart => exact ⟨0, Nat.zero_le _, rfl, how, hcv0, hp0, hB0⟩
  case round =>
    clear how hcv0 hp0 hB0 cv_1 p_1 pa_1 pb_1 pc_1 B_1
    obtain ⟨k, hk, rfl, own, hcv, hp, hB⟩ := hrel
    by_cases hlt : k < N
    · obtain ⟨g, x, hA, hgb, hgs, hx, hgc, hgf, hst⟩ := own.at_ (k := k) (by rw [fillTo_len hk]; exact hlt)
      injection hA with hA; injection hA with hA; subst hA
      have hs1 := (hst (-1)).1
      rw [fillTo_set hlt] at hs1
      have hcv1 := hcv.grownInts (hst (-1)).2 own (by decide)
      have hp1 := hp.grownOwn own (by decide) (hst (-1)).2
      have hB1 := below_mark hB own (hst (-1)).2 (Nat.le_refl _) hB.size
      clear hst hx own hcv hp hB
      go_wp2_with fail
      go_roundw
      case rel => exact ⟨k + 1, by omega, by go_num, hs1, hcv1, hp1, hB1⟩
      case measure => simp [intOf]; omega
    · obtain rfl : N = k := by omega
      have hT0 : fillTo N N = (trTo wd ht xs 0).1 := by rw [fillTo_all, HN.out]; rfl
      rw [hT0] at own
      clear hT0 hlt hk
      have hz := hB.size
      obtain ⟨pa_0, pb_0, pc_0⟩ := hp.three
      go_wp2_with fail
      refine ((hseg.out _)).mono ?_
      rintro e w2 ⟨rfl, hb2⟩
      have z_2 : wr.heap.size ≤ w2.heap.size := hb2.size
      have B_2 := (Below.refl wr.heap.size wr).trans (hb2.mono (by first | omega | (simp; omega) | simp))
      have own2 := own.below hb2
      have hcv2 := hcv.below hb2
      have hp2 := hp.below hb2
      have hB2 := hB.trans (hb2.mono hz)
      have hz2 := hB2.size
      clear own hcv hp hB hb2 z_2 B_2 hz
      go_wp2_with fail
      go_loopw [25, 4] (fun i cv wr => ∃ (k : Nat) (A1 : Option Addr) (c1 : Nat) (hs : List Hd), k ≤ N ∧ i = .int .i64 (k : Int) ∧ cv = .slice A1 hs.length c1 ∧ OwnI wr w.heap.size (some ⟨w1.heap.size, 0, none⟩) N (trTo wd ht xs k).1 ∧ Own hdW wr w.heap.size A1 c1 hs ∧ RowsG wkE wr w.heap.size wr.heap.size hs (trTo wd ht xs k).2 ∧ Bx wr w.heap.size 36 #[.int .i64 wd, .int .i64 ht, .slice A xs.length c] ∧ Below w.heap.size w wr) (fun i _ _ => N - (intOf i).toNat)
      case atStart => exact ⟨0, _, 0, [], Nat.zero_le _, rfl, rfl, own2, hcv2, RowsG.nil _ _ _, hp2, hB2⟩
      case round =>
        clear own2 hcv2 hp2 hB2 hz2 pa_0 pb_0 pc_0
        obtain ⟨wo, rfl⟩ : ∃ wo, wo = wr := ⟨_, rfl⟩
        obtain ⟨k, A1, c1, hs, hk, rfl, rfl, own, hcv, hrows, hp, hB⟩ := hrel
        have hz := hB.size
        by_cases hlt : k < N
        · have hkn : k < nSeg wd ht := by rw [← HN.out]; exact hlt
          obtain ⟨TL, hTL⟩ : ∃ t, t = (trTo wd ht xs k).1 := ⟨_, rfl⟩
          have htl := hide (tr_len (xs := xs) HS.out (k := k) (by omega))
          obtain ⟨g, v, hA, hgb, hgs, hv, hgc, hgf, _⟩ := own.at_ (k := k) (by rw [htl.out.1]; exact hkn)
          injection hA with hA; injection hA with hA; subst hA
          clear TL hTL
          by_cases h0 : 0 ≤ v
          · have HT := hide (tr_skip hv h0)
            have d0 : decide (v ≥ 0) = true := by simpa using h0
            clear hv
            go_wp2_with fail
            go_roundw
            case rel => exact ⟨k + 1, A1, c1, hs, by omega, by go_num, rfl, by rw [HT.out]; exact own, hcv, by rw [HT.out]; exact hrows, hp, hB⟩
            case measure => simp [intOf]; omega
          · have d0 : decide (v ≥ 0) = false := by simpa using h0
            have HNEW := hide (tr_new (wd := wd) hv h0)
            have hwk := (walkK_ok HS.out hkn).1
            have hper := per_spec (xs := xs) HS.out hwk
            have HOK := hide (okW_it (xs := xs) hwk)
            have HFREE := hide (fun i hi => tr_free (xs := xs) HS.out hkn hv h0 (i := i) hi (hs.length : Int))
            have HDONE := hide (tr_done (xs := xs) HS.out hkn (hs.length : Int))
            have HAT := hide (fun i hi => orbW_at (wd := wd) (ht := ht) (xs := xs) (walkK ht k) (i := i) hi)
            have HOL := hide (orbW_len (wd := wd) (ht := ht) (xs := xs) (walkK ht k))
            have HRL := hide hrows.len
            obtain ⟨a, ha⟩ : ∃ a, a = walkK ht k := ⟨_, rfl⟩
            have HWA := hide (fun W => walker_any wd ht A c xs k W HS.out hkn)
            rw [← ha] at hper HOK HFREE HDONE HAT HOL HNEW HWA
            obtain ⟨P, hP⟩ : ∃ P, P = perW wd ht xs a := ⟨_, rfl⟩
            rw [← hP] at hper HFREE HDONE HAT HOL
            obtain ⟨orb, ho⟩ : ∃ o, o = orbW wd ht xs a := ⟨_, rfl⟩
            rw [← ho] at HFREE HDONE HAT HOL HNEW
            obtain ⟨TL, hTL⟩ : ∃ t, t = (trTo wd ht xs k).1 := ⟨_, rfl⟩
            rw [← hTL] at HFREE HDONE own HNEW
            obtain ⟨p1, p2, p3, p4⟩ := hper
            have HP := hide p2
            have hP2 : P ≤ 256 := by have := HN.out; omega
            have hsl : hs.length ≤ 256 := by have := htl.out.2; rw [HRL.out]; omega
            have htll : TL.length = N := by rw [hTL, htl.out.1, HN.out]
            have HTL := hide htll
            clear ha hP ho hTL p2 p3 p4 hwk hv h0 htll
            have hcu := Own.new_ (E := wkE) wo (base := wo.heap.size) wo.heap.size [] #[] rfl rfl (Nat.le_refl _) (by simp)
            have hpq := (((hp).alloc (.cells #[] 112))).three
            obtain ⟨pa_0, pb_0, pc_0⟩ := hpq
            go_wp2_with fail
            refine ((HWA.out _)).mono ?_
            rintro e w3 ⟨rfl, hb3⟩
            have own_3 := ((own).alloc (.cells #[] 112)).below hb3
            have hcv_3 := ((hcv).alloc (.cells #[] 112)).below hb3
            have hrows_3 := ((hrows).alloc (.cells #[] 112)).below hb3
            have hp_3 := ((hp).alloc (.cells #[] 112)).below hb3
            have cu_3 := (hcu).below hb3
            have z_3 : (wo.alloc (.cells #[] 112)).heap.size ≤ w3.heap.size := hb3.size
            simp only [World.size_alloc] at z_3
            have B_3 := ((Below.refl wo.heap.size wo).alloc (by first | omega | (simp; omega) | simp) (.cells #[] 112)).trans (hb3.mono (by first | omega | (simp; omega) | simp))
            have own4 := ((own_3).alloc (.cells #[.int .i64 a.x, .int .i64 a.y, .int .i64 a.dx, .int .i64 a.dy] 112))
            have hcv4 := ((hcv_3).alloc (.cells #[.int .i64 a.x, .int .i64 a.y, .int .i64 a.dx, .int .i64 a.dy] 112))
            have hrows4 := ((hrows_3).alloc (.cells #[.int .i64 a.x, .int .i64 a.y, .int .i64 a.dx, .int .i64 a.dy] 112))
            have hp4 := ((hp_3).alloc (.cells #[.int .i64 a.x, .int .i64 a.y, .int .i64 a.dx, .int .i64 a.dy] 112))
            have cu4 := ((cu_3).alloc (.cells #[.int .i64 a.x, .int .i64 a.y, .int .i64 a.dx, .int .i64 a.dy] 112))
            have wk4 := (Bx.new_ w3 (w3.heap.size) 112 #[.int .i64 a.x, .int .i64 a.y, .int .i64 a.dx, .int .i64 a.dy] (by simp))
            have hB4 := hB.trans ((((B_3).alloc (by first | omega | (simp; omega) | simp) (.cells #[.int .i64 a.x, .int .i64 a.y, .int .i64 a.dx, .int .i64 a.dy] 112))).mono hz)
            have hz4 : wo.heap.size ≤ ((w3.alloc (.cells #[.int .i64 a.x, .int .i64 a.y, .int .i64 a.dx, .int .i64 a.dy] 112))).heap.size := by simp; omega
            have hzz : wo.heap.size ≤ w3.heap.size := by omega
            clear own hcv hrows hp own_3 hcv_3 hrows_3 hp_3 cu_3 hb3 hcu hgs hgc hgf pa_0 pb_0 pc_0
            go_wp2_with fail
            go_loopw [9, 8] (fun wv cu wr => ∃ (i bw : Nat) (A2 : Option Addr) (c2 : Nat) (zs : List Wk), i ≤ P ∧ wv = .pointer (some ⟨bw, 0, none⟩) ∧ cu = .slice A2 zs.length c2 ∧ Hid (zs = orb.take i) ∧ Hid (zs.length = i) ∧ Bx wr bw 112 #[.int .i64 (itW wd ht xs i a).x, .int .i64 (itW wd ht xs i a).y, .int .i64 (itW wd ht xs i a).dx, .int .i64 (itW wd ht xs i a).dy] ∧ wo.heap.size ≤ bw ∧ blk A2 ≠ some bw ∧ Own wkE wr wo.heap.size A2 c2 zs ∧ OwnI wr w.heap.size (some ⟨w1.heap.size, 0, none⟩) N (markL ht TL zs (hs.length : Int)) ∧ Own hdW wr w.heap.size A1 c1 hs ∧ RowsG wkE wr w.heap.size wo.heap.size hs (trTo wd ht xs k).2 ∧ Bx wr w.heap.size 36 #[.int .i64 wd, .int .i64 ht, .slice A xs.length c] ∧ Below w.heap.size w wr ∧ wo.heap.size ≤ wr.heap.size) (fun _ cu _ => P - lenOf cu)
            case atStart => exact ⟨0, _, _, 0, [], Nat.zero_le _, rfl, rfl, hide (by simp), hide rfl, wk4, hzz, blk_ne (by omega), cu4, own4, hcv4, hrows4, hp4, hB4, hz4⟩
            case round =>
              clear own4 hcv4 hrows4 hp4 cu4 wk4 hB4 hz4
              obtain ⟨i, bw, A2, c2, zs, hi, rfl, rfl, hzs, hzl, hwk, hbw, hne, cu, own, hcv, hrows, hp, hB, hzo⟩ := hrel
              have hz := hB.size
              obtain ⟨x, hx⟩ : ∃ x, x = itW wd ht xs i a := ⟨_, rfl⟩
              rw [← hx] at hwk
              have hok : OkW wd ht x := by rw [hx]; exact HOK.out i
              have HX := hide hx
              have hsn := segN_int HS.out hok
              have HSN := hide hsn.1
              have hsl2 : segN ht x < N := by have := hsn.2; rw [← HN.out] at this; exact this
              have HSEG := hide (fun W => (by have h := segment_any wd ht A c xs x W HS.out hok; rw [← hsn.1] at h; exact h))
              have hmt : (markL ht TL zs (hs.length : Int)).length = N := by rw [markL_len]; exact HTL.out
              have HMT := hide hmt
              clear hx hsn hmt
              obtain ⟨pa_0, pb_0, pc_0⟩ := hp.three
              obtain ⟨wa_0, wb_0, wc_0, wd_0⟩ := hwk.four
              by_cases hlt2 : i < P
              · have hfr := HFREE.out i hlt2
                rw [← HX.out, ← hzs.out] at hfr
                have HFR := hide hfr
                clear hfr
                go_wp2_with fail
                refine ((HSEG.out _)).mono ?_
                rintro e w4 ⟨rfl, hb4⟩
                have own_4 := (own).below hb4
                have hcv_4 := (hcv).below hb4
                have hrows_4 := (hrows).below hb4
                have hp_4 := (hp).below hb4
                have hwk_4 := (hwk).below hb4
                have cu_4 := (cu).below hb4
                have z_4 : wr.heap.size ≤ w4.heap.size := hb4.size
                have B_4 := (Below.refl wr.heap.size wr).trans (hb4.mono (by first | omega | (simp; omega) | simp))
                obtain ⟨g, v4, hA, hgb, hgs, hv4, hgc, hgf, _⟩ := own_4.at_ (k := segN ht x) (by rw [HMT.out]; exact hsl2)
                injection hA with hA; injection hA with hA; subst hA
                obtain rfl : v4 = -1 := by have h := HFR.out; rw [hv4] at h; injection h
                clear hv4
                obtain ⟨pa_4, pb_4, pc_4⟩ := hp_4.three
                obtain ⟨wa_4, wb_4, wc_4, wd_4⟩ := hwk_4.four
                go_wp2_with fail
                refine ((HSEG.out _)).mono ?_
                rintro e w5 ⟨rfl, hb5⟩
                have own_5 := (own_4).below hb5
                have hcv_5 := (hcv_4).below hb5
                have hrows_5 := (hrows_4).below hb5
                have hp_5 := (hp_4).below hb5
                have hwk_5 := (hwk_4).below hb5
                have cu_5 := (cu_4).below hb5
                have z_5 : w4.heap.size ≤ w5.heap.size := hb5.size
                have B_5 := (B_4).trans (hb5.mono (by first | omega | (simp; omega) | simp))
                obtain ⟨g, v4, hA, hgb5, hgs5, hv4, hgc5, hgf5, hst⟩ := own_5.at_ (k := segN ht x) (by rw [HMT.out]; exact hsl2)
                injection hA with hA; injection hA with hA; subst hA
                have hs5 := hst (hs.length : Int)
                have HMS := hide (markL_snoc (ht := ht) (m := (hs.length : Int)) TL zs x)
                rw [← HMS.out] at hs5
                have hB5 := hB.trans (((B_5)).mono hz)
                have own6 := hs5.1
                have hcv6 := hcv_5.grownInts hs5.2 own_5 (by decide)
                have hrows6 := hrows_5.grownOther hs5.2 (intE_own.2 own_5) (by decide)
                have hp6 := hp_5.grownOwn own_5 (by decide) hs5.2
                have hwk6 := hwk_5.grownOwn own_5 (by decide) hs5.2
                have cu6 := cu_5.grownInts hs5.2 own_5 (by decide)
                have hB6 := below_mark hB5 own_5 hs5.2 (Nat.le_refl _) hB5.size
                obtain ⟨wa_6, wb_6, wc_6, wd_6⟩ := hwk6.four
                have hz5 : wo.heap.size ≤ w5.heap.size := by omega
                have hz6 := hB5.size
                have hzlen : zs.length ≤ 256 := by rw [hzl.out]; omega
                clear hv4 hst hs5 hgc hgf own_4 hcv_4 hrows_4 hp_4 hwk_4 cu_4 own_5 hcv_5 hrows_5 hp_5 hwk_5 cu_5 wa_4 wb_4 wc_4 wd_4 pa_4 pb_4 pc_4 pa_0 pb_0 pc_0 wa_0 wb_0 wc_0 wd_0 hb4 hb5 hB5 hB B_4 B_5 own hcv hrows hp hwk cu
                go_wp2_with (at_builtin; refine wpList_append_row wkE rfl (.tmp 57) (.tmp 59) rfl wo.heap.size A2 c2 zs rfl (cu6.alloc _) (some ⟨w5.heap.size, 0, none⟩) 1 [x] rfl (RG.fresh (E := wkE) _ _ (by simp) x #[.int .i64 x.x, .int .i64 x.y, .int .i64 x.dx, .int .i64 x.dy] rfl _) (by simp; omega) (by simp [wkE]; omega) (by simp; omega) (zs ++ [x]) rfl ?_; intro A7 c7 w7 cu7 hg7 hb7; have hwk7 := (hwk6.alloc _).grown hg7 (.inr hne); obtain ⟨wa_7, wb_7, wc_7, wd_7⟩ := hwk7.four; have hp7 := (hp6.alloc _).grownG (cu6.alloc _) (by decide) hg7; have hp8 := hp7.alloc (.cells #[.int .i64 x.x, .int .i64 x.y, .int .i64 x.dx, .int .i64 x.dy] 112); obtain ⟨pa_8, pb_8, pc_8⟩ := hp8.three; have hwk8 := Bx.new w7 112 #[.int .i64 x.x, .int .i64 x.y, .int .i64 x.dx, .int .i64 x.dy]; obtain ⟨wa_8, wb_8, wc_8, wd_8⟩ := hwk8.four)
                have own7 := (own6.alloc _).grownOther hg7 (cu6.alloc _) (by decide)
                have hcv7 := (hcv6.alloc _).grownOther hg7 (cu6.alloc _) (by decide)
                have hrows7 := (hrows6.alloc _).grownFar hg7 (fun g hg => .inr (cu6.ge hg).1)
                have hB7 := (hB6.alloc (by simp; omega) _).grown hg7 (by simp; omega) (fun q hq => by have := (cu6.ge hq).1; omega)
                have hz7 := hg7.size
                simp only [World.size_alloc, World.size_setCell] at hz7
                clear own6 hcv6 hrows6 hp6 hwk6 cu6 hB6 hg7 wa_6 wb_6 wc_6 wd_6 hb7 hgc5 hgf5
                have hrd9 := hxs.below (hB7.trans ((((Below.refl w7.heap.size w7).alloc (by first | omega | (simp; omega) | simp) (.cells #[.int .i64 x.x, .int .i64 x.y, .int .i64 x.dx, .int .i64 x.dy] 112))).mono (by omega)))
                refine (step_any wd ht A c xs x _ hrd9 HS.out HL.out hok).mono ?_
                rintro e w9 ⟨tq, rfl, hb9⟩
                have wk_9 := (Bx.new_ w7 (w7.heap.size) 112 #[.int .i64 x.x, .int .i64 x.y, .int .i64 x.dx, .int .i64 x.dy] (by simp)).below hb9
                obtain ⟨wka_9, wkb_9, wkc_9, wkd_9⟩ := (wk_9).four
                have wkf0_9 := (wk_9).frozen 0
                have wkf1_9 := (wk_9).frozen 1
                have wkf2_9 := (wk_9).frozen 2
                have wkf3_9 := (wk_9).frozen 3
                have z_9 : (w7.alloc (.cells #[.int .i64 x.x, .int .i64 x.y, .int .i64 x.dx, .int .i64 x.dy] 112)).heap.size ≤ w9.heap.size := hb9.size
                simp only [World.size_alloc] at z_9
                have B_9 := ((Below.refl w7.heap.size w7).alloc (by first | omega | (simp; omega) | simp) (.cells #[.int .i64 x.x, .int .i64 x.y, .int .i64 x.dx, .int .i64 x.dy] 112)).trans (hb9.mono (by first | omega | (simp; omega) | simp))
                have hwq := (wk_9)
                go_wp2_with fail
                have HNX : Hid (itW wd ht xs (i + 1) a = stepW wd ht xs x) := hide (by rw [HX.out]; rfl)
                have HZ1 : Hid (zs ++ [x] = orb.take (i + 1)) := hide (by rw [List.take_add_one, HAT.out i hlt2, ← hzs.out, ← HX.out]; rfl)
                have HZ2 : Hid ((zs ++ [x]).length = i + 1) := hide (by rw [List.length_append, hzl.out]; rfl)
                go_roundw
                case rel => exact ⟨i + 1, _, A7, c7, zs ++ [x], by omega, rfl, by simp, HZ1, HZ2, by rw [HNX.out]; exact (((((wk_9).set_ 0 (.int .i64 x.nx)).set_ 1 (.int .i64 x.ny)).set_ 2 (.int .i64 (stepW wd ht xs x).dx)).set_ 3 (.int .i64 (stepW wd ht xs x).dy)), by omega, fun e => by have := (cu7.ge e).2; omega, cu7.below (((((B_9).setCell (p := ⟨(w7.heap.size), 0, none⟩) (by first | omega | (simp; omega) | simp) (.int .i64 x.nx)).setCell (p := ⟨(w7.heap.size), 1, none⟩) (by first | omega | (simp; omega) | simp) (.int .i64 x.ny)).setCell (p := ⟨(w7.heap.size), 2, none⟩) (by first | omega | (simp; omega) | simp) (.int .i64 (stepW wd ht xs x).dx)).setCell (p := ⟨(w7.heap.size), 3, none⟩) (by first | omega | (simp; omega) | simp) (.int .i64 (stepW wd ht xs x).dy)), own7.below (((((B_9).setCell (p := ⟨(w7.heap.size), 0, none⟩) (by first | omega | (simp; omega) | simp) (.int .i64 x.nx)).setCell (p := ⟨(w7.heap.size), 1, none⟩) (by first | omega | (simp; omega) | simp) (.int .i64 x.ny)).setCell (p := ⟨(w7.heap.size), 2, none⟩) (by first | omega | (simp; omega) | simp) (.int .i64 (stepW wd ht xs x).dx)).setCell (p := ⟨(w7.heap.size), 3, none⟩) (by first | omega | (simp; omega) | simp) (.int .i64 (stepW wd ht xs x).dy)), hcv7.below (((((B_9).setCell (p := ⟨(w7.heap.size), 0, none⟩) (by first | omega | (simp; omega) | simp) (.int .i64 x.nx)).setCell (p := ⟨(w7.heap.size), 1, none⟩) (by first | omega | (simp; omega) | simp) (.int .i64 x.ny)).setCell (p := ⟨(w7.heap.size), 2, none⟩) (by first | omega | (simp; omega) | simp) (.int .i64 (stepW wd ht xs x).dx)).setCell (p := ⟨(w7.heap.size), 3, none⟩) (by first | omega | (simp; omega) | simp) (.int .i64 (stepW wd ht xs x).dy)), hrows7.below (((((B_9).setCell (p := ⟨(w7.heap.size), 0, none⟩) (by first | omega | (simp; omega) | simp) (.int .i64 x.nx)).setCell (p := ⟨(w7.heap.size), 1, none⟩) (by first | omega | (simp; omega) | simp) (.int .i64 x.ny)).setCell (p := ⟨(w7.heap.size), 2, none⟩) (by first | omega | (simp; omega) | simp) (.int .i64 (stepW wd ht xs x).dx)).setCell (p := ⟨(w7.heap.size), 3, none⟩) (by first | omega | (simp; omega) | simp) (.int .i64 (stepW wd ht xs x).dy)), hp7.below (((((B_9).setCell (p := ⟨(w7.heap.size), 0, none⟩) (by first | omega | (simp; omega) | simp) (.int .i64 x.nx)).setCell (p := ⟨(w7.heap.size), 1, none⟩) (by first | omega | (simp; omega) | simp) (.int .i64 x.ny)).setCell (p := ⟨(w7.heap.size), 2, none⟩) (by first | omega | (simp; omega) | simp) (.int .i64 (stepW wd ht xs x).dx)).setCell (p := ⟨(w7.heap.size), 3, none⟩) (by first | omega | (simp; omega) | simp) (.int .i64 (stepW wd ht xs x).dy)), hB7.trans (((((((B_9).setCell (p := ⟨(w7.heap.size), 0, none⟩) (by first | omega | (simp; omega) | simp) (.int .i64 x.nx)).setCell (p := ⟨(w7.heap.size), 1, none⟩) (by first | omega | (simp; omega) | simp) (.int .i64 x.ny)).setCell (p := ⟨(w7.heap.size), 2, none⟩) (by first | omega | (simp; omega) | simp) (.int .i64 (stepW wd ht xs x).dx)).setCell (p := ⟨(w7.heap.size), 3, none⟩) (by first | omega | (simp; omega) | simp) (.int .i64 (stepW wd ht xs x).dy))).mono (by omega)), by simp; omega⟩
                case measure => have := hzl.out; simp [lenOf_slice]; omega
              · have hiP : P = i := by omega
                have hfr := HDONE.out
                rw [hiP, ← HX.out, ← hzs.out] at hfr
                have HFR := hide hfr
                have HZP : Hid (zs = orb) := hide (by rw [hzs.out, ← hiP, List.take_of_length_le (by rw [HOL.out]; exact Nat.le_refl _)])
                clear hfr hiP
                go_wp2_with fail
                refine ((HSEG.out _)).mono ?_
                rintro e w4 ⟨rfl, hb4⟩
                have own_4 := (own).below hb4
                have hcv_4 := (hcv).below hb4
                have hrows_4 := (hrows).below hb4
                have hp_4 := (hp).below hb4
                have cu_4 := (cu).below hb4
                have z_4 : wr.heap.size ≤ w4.heap.size := hb4.size
                have B_4 := (Below.refl wr.heap.size wr).trans (hb4.mono (by first | omega | (simp; omega) | simp))
                obtain ⟨g, v4, hA, hgb, hgs, hv4, hgc, hgf, _⟩ := own_4.at_ (k := segN ht x) (by rw [HMT.out]; exact hsl2)
                injection hA with hA; injection hA with hA; subst hA
                obtain rfl : v4 = (hs.length : Int) := by have h := HFR.out; rw [hv4] at h; injection h
                have hB4 := hB.trans (((B_4)).mono hz)
                clear hv4
                go_wp2_with (at_builtin; refine wpList_append_row hdW rfl (.tmp 62) (.tmp 64) rfl w.heap.size A1 c1 hs rfl (hcv_4.alloc _) (some ⟨w4.heap.size, 0, none⟩) 1 [⟨A2, zs.length, c2⟩] rfl (RG.fresh (E := hdW) _ _ rfl ⟨A2, zs.length, c2⟩ #[.slice A2 zs.length c2] rfl _) (by simp; omega) (by simp [hdW]; omega) (by simp; omega) (hs ++ [⟨A2, zs.length, c2⟩]) rfl ?_; intro A7 c7 w7 hcv7 hg7 hb7)
                have own7 := (own_4.alloc (.cells #[.slice A2 zs.length c2] 77)).grownOther hg7 (hcv_4.alloc _) (by decide)
                have cu7 := (cu_4.alloc (.cells #[.slice A2 zs.length c2] 77)).grownOther hg7 (hcv_4.alloc _) (by decide)
                have hrows7 := (hrows_4.alloc (.cells #[.slice A2 zs.length c2] 77)).grownOther hg7 (hcv_4.alloc _) (by decide)
                have hp7 := (hp_4.alloc (.cells #[.slice A2 zs.length c2] 77)).grownG (hcv_4.alloc _) (by decide) hg7
                have hB7 := (hB4.alloc (by omega) _).grown hg7 (by simp; omega) (fun q hq => (hcv_4.ge hq).1)
                have hz7 := hg7.size
                simp only [World.size_alloc] at hz7
                have hrows8 := hrows7.snoc (cu7.mono (by omega)) (by omega)
                clear own_4 cu_4 hrows_4 hp_4 hcv_4 hg7 hrows7 cu7
                go_roundw
                case rel => exact ⟨k + 1, A7, c7, hs ++ [⟨A2, zs.length, c2⟩], by omega, by go_num, by simp, by rw [HNEW.out, ← HZP.out, ← HRL.out]; exact own7, hcv7, by rw [HNEW.out, ← HZP.out]; exact hrows8, hp7, hB7⟩
                case measure => simp [intOf]; omega
        · obtain rfl : N = k := by omega
          have HO : Hid (ownL wd ht xs = (trTo wd ht xs N).1) := hide (by unfold ownL; rw [HN.out])
          have HC : Hid (curL wd ht xs = (trTo wd ht xs N).2) := hide (by unfold curL; rw [HN.out])
          have HOL : Hid ((ownL wd ht xs).length = N) := hide (by rw [HO.out, HN.out]; exact (tr_len HS.out (Nat.le_refl _)).1)
          clear hlt
          go_wp2_with fail
          go_ret2
          exact ⟨A1, c1, some ⟨w1.heap.size, 0, none⟩, N, hs, by rw [HOL.out]; rfl, hcv, by rw [HC.out]; exact hrows, by rw [HO.out]; exact own, hB⟩
end Go.Proofs.Ytnjojnnapdhijaa
