/-
  Contracts: OwnWrithe, LinkingNumber, of the reference and of the program. Conditions: the lengths are far below the machine's.
-/
import Derived.Test.YtmjeafklafjakaaTr16
namespace Go.Proofs.Ytmjeafklafjakaa
open Go.RowKit
set_option linter.unusedVariables false

noncomputable def lkN (wd ht : Int) (xs : List Int) (a b : Nat) : Int := lkG (dirC wd ht xs true) (dirC wd ht xs false) (sgL wd ht xs) (crN xs) a b
noncomputable def ownR (wd ht : Int) (xs : List Int) (k : Int) : Int × Int := if cvC wd ht xs [k] = 0 then (lkN wd ht xs k.toNat k.toNat, 0) else (0, cvC wd ht xs [k])
noncomputable def lnkR (wd ht : Int) (xs : List Int) (a b : Int) : Int × Int := if cvC wd ht xs [a, b] = 0 then (if a = b then (0, 6) else (Int.tdiv (lkN wd ht xs a.toNat b.toNat) 2, 0)) else (0, cvC wd ht xs [a, b])
section
variable {wd ht : Int} {xs : List Int}
theorem ownR_ok {K : Nat} (h : cvC wd ht xs [(K : Int)] = 0) : ownR wd ht xs (K : Int) = (lkN wd ht xs K K, 0) := by unfold ownR; rw [if_pos h, Int.toNat_natCast]
theorem ownR_no {k : Int} (h : ¬ cvC wd ht xs [k] = 0) : ownR wd ht xs k = (0, cvC wd ht xs [k]) := by unfold ownR; rw [if_neg h]
theorem lnkR_ok {K M : Nat} (h : cvC wd ht xs [(K : Int), (M : Int)] = 0) (hkm : K ≠ M) : lnkR wd ht xs (K : Int) (M : Int) = (Int.tdiv (lkN wd ht xs K M) 2, 0) := by unfold lnkR; rw [if_pos h, if_neg (by omega), Int.toNat_natCast, Int.toNat_natCast]
theorem lnkR_eq {k : Int} (h : cvC wd ht xs [k, k] = 0) : lnkR wd ht xs k k = (0, 6) := by unfold lnkR; rw [if_pos h, if_pos rfl]
theorem lnkR_no {a b : Int} (h : ¬ cvC wd ht xs [a, b] = 0) : lnkR wd ht xs a b = (0, cvC wd ht xs [a, b]) := by unfold lnkR; rw [if_neg h]
theorem lkN_bound (a b : Nat) (hn : xs.length ≤ 1048576) : -1048576 ≤ lkN wd ht xs a b ∧ lkN wd ht xs a b ≤ 1048576 := by
  have h := lkG_bound (oc := dirC wd ht xs true) (uc := dirC wd ht xs false) (fun s (h : s ∈ sgL wd ht xs) => sgL_pm h) (crN xs) a b
  have h2 := crN_le xs
  unfold lkN
  omega
theorem lk_next {k i j C : Nat} {s : Int} (h1 : (dirC wd ht xs true)[k]? = some (i : Int)) (h2 : (dirC wd ht xs false)[k]? = some (j : Int)) (h3 : (sgL wd ht xs)[k]? = some s) :
    lkG (dirC wd ht xs true) (dirC wd ht xs false) (sgL wd ht xs) (k + 1) C C = lkG (dirC wd ht xs true) (dirC wd ht xs false) (sgL wd ht xs) k C C + if i = C ∧ j = C then s else 0 := by
  rw [lkG_next h1 h2 h3]
  congr 1
  by_cases hc : i = C ∧ j = C
  · rw [if_pos hc, if_pos (.inl hc)]
  · rw [if_neg hc, if_neg (by omega)]
end

set_option maxHeartbeats 8000000 in
theorem implOwnWrithe_any (wd ht : Int) (A : Option Addr) (c : Nat) (xs : List Int) (k : Int) (w : World) (hxs : RI w A xs) (hcap : xs.length ≤ c ∧ c ≤ 9223372036854775807) (hn : xs.length ≤ 1048576) :
    Calls Try.prog 15 #[.agg #[.int .i64 wd, .int .i64 ht, .slice A xs.length c], .int .i64 k] w (RetV w (.tuple #[.int .i64 (ownR wd ht xs k).1, .int .i64 (ownR wd ht xs k).2])) := by
  obtain ⟨pa_x1, pb_x1, pc_x1⟩ := (Bx.new_ w (w.heap.size) 26 #[.int .i64 wd, .int .i64 ht, .slice A xs.length c] (by simp)).three
  have hks : OwnI (((w.alloc (.cells #[.int .i64 wd, .int .i64 ht, .slice A xs.length c] 26))).alloc (.cells #[.int .i64 k] 2)) 0 (some ⟨w.heap.size + 1, 0, none⟩) 1 [k] := OwnI.newI_ (w.alloc (.cells #[.int .i64 wd, .int .i64 ht, .slice A xs.length c] 26)) (w.heap.size + 1) [k] #[.int .i64 k] (by simp) rfl (Nat.zero_le _) (by simp [maxLen])
  have HCODE := hide (curveCode_any wd ht A (some ⟨w.heap.size + 1, 0, none⟩) c 1 xs [k] ((w.alloc (.cells #[.int .i64 wd, .int .i64 ht, .slice A xs.length c] 26)).alloc (.cells #[.int .i64 k] 2)) (hxs.below (((Below.refl w.heap.size w).alloc (by first | omega | (simp; omega) | simp) (.cells #[.int .i64 wd, .int .i64 ht, .slice A xs.length c] 26)).alloc (by first | omega | (simp; omega) | simp) (.cells #[.int .i64 k] 2))) hks.rd hn (by simp))
  clear hks
  by_cases h0 : cvC wd ht xs [k] = 0
  · obtain ⟨hv, hk⟩ := cvC_zero h0
    obtain ⟨hk0, hk1⟩ := hk k (by simp)
    obtain ⟨hs, hl⟩ := vld_sz hv
    obtain ⟨K, rfl⟩ : ∃ K : Nat, k = (K : Int) := ⟨k.toNat, by omega⟩
    rw [Int.toNat_natCast] at hk1
    have HR := hide (ownR_ok h0)
    have HC0 := hide h0
    have HDIR := hide (fun (W : World) (hb : Below w.heap.size w W) => directions_any wd ht A c xs W (hxs.below hb) hcap hs hl hn)
    have HSIG := hide (fun (W : World) (hb : Below w.heap.size w W) => signs_any wd ht A c xs W (hxs.below hb) hcap hs hl hn)
    have HLEN := hide (fun b => dir_len (b := b) (xs := xs) hs hl)
    have HFOUR := hide (fun k hk => dir_four (xs := xs) hs hl (k := k) hk)
    have HSL := hide (sgL_len (xs := xs) hs hl)
    have HBD := hide (fun k C => lkG_bound (oc := dirC wd ht xs true) (uc := dirC wd ht xs false) (fun s (h : s ∈ sgL wd ht xs) => sgL_pm h) k C C)
    have HPM := hide (fun s (h : s ∈ sgL wd ht xs) => sgL_pm h)
    obtain ⟨n, hnn⟩ : ∃ n, n = crN xs := ⟨_, rfl⟩
    have HNN := hide hnn
    have hnl : n ≤ 1048576 := by have := crN_le xs; omega
    have e9 : (zTo xs xs.length).length = n := by rw [hnn]; rfl
    rw [e9] at HLEN HFOUR HSL
    have hK256 := cvN_le hv
    clear h0 hk e9 hnn
    go_enter Try.func15, Try.ntmps15
    go_wp2_with fail
    refine (HCODE.out).mono ?_
    rintro e w1 ⟨rfl, hb1⟩
    have p_1 := ((Bx.new_ w (w.heap.size) 26 #[.int .i64 wd, .int .i64 ht, .slice A xs.length c] (by simp)).alloc (.cells #[.int .i64 (K : Int)] 2)).below hb1
    obtain ⟨pa_1, pb_1, pc_1⟩ := (p_1).three
    have z_1 : ((w.alloc (.cells #[.int .i64 wd, .int .i64 ht, .slice A xs.length c] 26)).alloc (.cells #[.int .i64 (K : Int)] 2)).heap.size ≤ w1.heap.size := hb1.size
    simp only [World.size_alloc] at z_1
    have B_1 := (((Below.refl w.heap.size w).alloc (by first | omega | (simp; omega) | simp) (.cells #[.int .i64 wd, .int .i64 ht, .slice A xs.length c] 26)).alloc (by first | omega | (simp; omega) | simp) (.cells #[.int .i64 (K : Int)] 2)).trans (hb1.mono (by first | omega | (simp; omega) | simp))
    rw [HC0.out]
    go_wp2_with fail
    refine (HDIR.out _ (B_1)).mono ?_
    rintro e w2 ⟨C1, a1, C2, a2, C3, d1, C4, d2, rfl, _, _, oc, uc, hb2⟩
    have hz1 := z_1
    have hB1 := (B_1)
    have p_2 := p_1.below hb2
    have hB2 := hB1.trans (hb2.mono hB1.size)
    obtain ⟨pa_2, pb_2, pc_2⟩ := p_2.three
    rw [(HLEN.out true).1, (HLEN.out false).1, (HLEN.out true).2, (HLEN.out false).2]
    go_wp2_with fail
    refine (HSIG.out _ hB2).mono ?_
    rintro e w3 ⟨A3, d3, rfl, sg, hb3⟩
    have oc3 := oc.below hb3
    have uc3 := uc.below hb3
    have hB3 := hB2.trans (hb3.mono hB2.size)
    rw [HSL.out]
    clear oc uc hb2 hb3 p_1 p_2 pa_2 pb_2 pc_2 pa_1 pb_1 pc_1 B_1 hb1 hB1 hB2
    go_wp2_with fail
    go_loopw [31, 7] (fun jv sv wr => ∃ (j : Nat) (x : Int), j ≤ n ∧ jv = .int .i64 (j : Int) ∧ sv = .int .i64 x ∧ Hid (x = lkG (dirC wd ht xs true) (dirC wd ht xs false) (sgL wd ht xs) j K K) ∧ wr = w3) (fun jv _ _ => n - (intOf jv).toNat)
    case atStart => exact ⟨0, 0, Nat.zero_le _, rfl, rfl, hide rfl, by first | trivial | rfl⟩
    case round =>
      obtain ⟨j, x, hj, rfl, rfl, hx, rfl⟩ := hrel
      have hbd := HBD.out j K
      rw [← hx.out] at hbd
      by_cases hlt : j < n
      · obtain ⟨_, _, a, b, _, _, _, _, f1, f2, _, _, _, _, f3⟩ := HFOUR.out j hlt
        have hs3 := HPM.out _ (List.mem_of_getElem? f3)
        obtain ⟨q1, v1, rfl, _, hq1, hv1, hc1, _, _⟩ := oc3.at_ (k := j) (by rw [(HLEN.out true).2]; exact hlt)
        obtain rfl : v1 = (a : Int) := by rw [f1] at hv1; injection hv1 with h; exact h.symm
        obtain ⟨q2, v2, rfl, _, hq2, hv2, hc2, _, _⟩ := uc3.at_ (k := j) (by rw [(HLEN.out false).2]; exact hlt)
        obtain rfl : v2 = (b : Int) := by rw [f2] at hv2; injection hv2 with h; exact h.symm
        obtain ⟨q3, v3, rfl, _, hq3, hv3, hc3, _, _⟩ := sg.at_ (k := j) (by rw [HSL.out]; exact hlt)
        have hv3s : -1 ≤ v3 ∧ v3 ≤ 1 := by rw [f3] at hv3; injection hv3 with h; omega
        have HN := hide (lk_next (C := K) f1 f2 hv3)
        rw [← hx.out] at HN
        clear f1 f2 f3 hv1 hv2 hv3 hs3
        by_cases ha : a = K
        · have e1 : ((a : Int) == (K : Int)) = true := eqt (by omega)
          by_cases hb : b = K
          · have e2 : ((b : Int) == (K : Int)) = true := eqt (by omega)
            have HX : Hid (x + v3 = lkG (dirC wd ht xs true) (dirC wd ht xs false) (sgL wd ht xs) (j + 1) K K) := hide (by rw [HN.out, if_pos ⟨ha, hb⟩])
            clear ha hb
            go_wp2_with fail
            go_roundw
            case rel => exact ⟨j + 1, x + v3, by omega, by go_num, by go_num, HX, by first | trivial | rfl⟩
            case measure => simp [intOf]; omega
          · have e2 : ((b : Int) == (K : Int)) = false := eqf (by omega)
            have HX : Hid (x = lkG (dirC wd ht xs true) (dirC wd ht xs false) (sgL wd ht xs) (j + 1) K K) := hide (by rw [HN.out, if_neg (fun h => hb h.2), Int.add_zero])
            clear ha hb
            go_wp2_with fail
            go_roundw
            case rel => exact ⟨j + 1, x, by omega, by go_num, by go_num, HX, by first | trivial | rfl⟩
            case measure => simp [intOf]; omega
        · have e1 : ((a : Int) == (K : Int)) = false := eqf (by omega)
          have HX : Hid (x = lkG (dirC wd ht xs true) (dirC wd ht xs false) (sgL wd ht xs) (j + 1) K K) := hide (by rw [HN.out, if_neg (fun h => ha h.1), Int.add_zero])
          clear ha
          go_wp2_with fail
          go_roundw
          case rel => exact ⟨j + 1, x, by omega, by go_num, by go_num, HX, by first | trivial | rfl⟩
          case measure => simp [intOf]; omega
      · have HX : Hid (lkN wd ht xs K K = x) := hide (by unfold lkN; rw [hx.out, ← HNN.out, show n = j by omega])
        go_wp2_with fail
        go_ret2
        rw [HR.out, HX.out]
        exact ⟨rfl, hB3⟩
  ·
    have HR := hide (ownR_no h0)
    obtain ⟨v, hvv⟩ : ∃ v, v = cvC wd ht xs [k] := ⟨_, rfl⟩
    rw [← hvv] at HR h0
    have HVV := hide hvv
    have d0 : (v != 0) = true := by simpa using h0
    clear h0 hvv
    go_enter Try.func15, Try.ntmps15
    go_wp2_with fail
    refine (HCODE.out).mono ?_
    rintro e w3 ⟨rfl, hb3⟩
    have p_3 := ((Bx.new_ w (w.heap.size) 26 #[.int .i64 wd, .int .i64 ht, .slice A xs.length c] (by simp)).alloc (.cells #[.int .i64 k] 2)).below hb3
    obtain ⟨pa_3, pb_3, pc_3⟩ := (p_3).three
    have z_3 : ((w.alloc (.cells #[.int .i64 wd, .int .i64 ht, .slice A xs.length c] 26)).alloc (.cells #[.int .i64 k] 2)).heap.size ≤ w3.heap.size := hb3.size
    simp only [World.size_alloc] at z_3
    have B_3 := (((Below.refl w.heap.size w).alloc (by first | omega | (simp; omega) | simp) (.cells #[.int .i64 wd, .int .i64 ht, .slice A xs.length c] 26)).alloc (by first | omega | (simp; omega) | simp) (.cells #[.int .i64 k] 2)).trans (hb3.mono (by first | omega | (simp; omega) | simp))
    rw [← HVV.out]
    go_wp2_with fail
    go_ret2
    rw [HR.out]
    exact ⟨rfl, (B_3)⟩
set_option maxHeartbeats 8000000 in
theorem implLinkingNumber_any (wd ht : Int) (A : Option Addr) (c : Nat) (xs : List Int) (a b : Int) (w : World) (hxs : RI w A xs) (hcap : xs.length ≤ c ∧ c ≤ 9223372036854775807) (hn : xs.length ≤ 1048576) :
    Calls Try.prog 16 #[.agg #[.int .i64 wd, .int .i64 ht, .slice A xs.length c], .int .i64 a, .int .i64 b] w (RetV w (.tuple #[.int .i64 (lnkR wd ht xs a b).1, .int .i64 (lnkR wd ht xs a b).2])) := by
  obtain ⟨pa_x1, pb_x1, pc_x1⟩ := (Bx.new_ w (w.heap.size) 26 #[.int .i64 wd, .int .i64 ht, .slice A xs.length c] (by simp)).three
  have hks : OwnI (((w.alloc (.cells #[.int .i64 wd, .int .i64 ht, .slice A xs.length c] 26))).alloc (.cells #[.int .i64 a, .int .i64 b] 2)) 0 (some ⟨w.heap.size + 1, 0, none⟩) 2 [a, b] := OwnI.newI_ (w.alloc (.cells #[.int .i64 wd, .int .i64 ht, .slice A xs.length c] 26)) (w.heap.size + 1) [a, b] #[.int .i64 a, .int .i64 b] (by simp) rfl (Nat.zero_le _) (by simp [maxLen])
  have HCODE := hide (curveCode_any wd ht A (some ⟨w.heap.size + 1, 0, none⟩) c 2 xs [a, b] ((w.alloc (.cells #[.int .i64 wd, .int .i64 ht, .slice A xs.length c] 26)).alloc (.cells #[.int .i64 a, .int .i64 b] 2)) (hxs.below (((Below.refl w.heap.size w).alloc (by first | omega | (simp; omega) | simp) (.cells #[.int .i64 wd, .int .i64 ht, .slice A xs.length c] 26)).alloc (by first | omega | (simp; omega) | simp) (.cells #[.int .i64 a, .int .i64 b] 2))) hks.rd hn (by simp))
  clear hks
  by_cases h0 : cvC wd ht xs [a, b] = 0
  · obtain ⟨hv, hk⟩ := cvC_zero h0
    obtain ⟨hk0, hk1⟩ := hk a (by simp)
    obtain ⟨hm0, hm1⟩ := hk b (by simp)
    obtain ⟨hs, hl⟩ := vld_sz hv
    have hK256 := cvN_le hv
    have HC0 := hide h0
    by_cases hab : a = b
    · subst hab
      have HR := hide (lnkR_eq h0)
      have d1 : (a == a) = true := by simp
      clear h0 hk
      go_enter Try.func16, Try.ntmps16
      go_wp2_with fail
      refine (HCODE.out).mono ?_
      rintro e w1 ⟨rfl, hb1⟩
      have p_1 := ((Bx.new_ w (w.heap.size) 26 #[.int .i64 wd, .int .i64 ht, .slice A xs.length c] (by simp)).alloc (.cells #[.int .i64 a, .int .i64 a] 2)).below hb1
      obtain ⟨pa_1, pb_1, pc_1⟩ := (p_1).three
      have z_1 : ((w.alloc (.cells #[.int .i64 wd, .int .i64 ht, .slice A xs.length c] 26)).alloc (.cells #[.int .i64 a, .int .i64 a] 2)).heap.size ≤ w1.heap.size := hb1.size
      simp only [World.size_alloc] at z_1
      have B_1 := (((Below.refl w.heap.size w).alloc (by first | omega | (simp; omega) | simp) (.cells #[.int .i64 wd, .int .i64 ht, .slice A xs.length c] 26)).alloc (by first | omega | (simp; omega) | simp) (.cells #[.int .i64 a, .int .i64 a] 2)).trans (hb1.mono (by first | omega | (simp; omega) | simp))
      rw [HC0.out]
      go_wp2_with fail
      go_ret2
      rw [HR.out]
      exact ⟨rfl, (B_1)⟩
    ·
      obtain ⟨K, rfl⟩ : ∃ K : Nat, a = (K : Int) := ⟨a.toNat, by omega⟩
      obtain ⟨M, rfl⟩ : ∃ M : Nat, b = (M : Int) := ⟨b.toNat, by omega⟩
      rw [Int.toNat_natCast] at hk1 hm1
      have hKM : K ≠ M := fun e => hab (by rw [e])
      have HR := hide (lnkR_ok h0 hKM)
      have d1 : ((K : Int) == (M : Int)) = false := eqf hab
      have hbd := lkN_bound (wd := wd) (ht := ht) (xs := xs) K M hn
      have HO : Hid (lkO (dirC wd ht xs true) (dirC wd ht xs false) (sgL wd ht xs) (crN xs) K M = lkN wd ht xs K M) := hide (by unfold lkO lkN; rw [if_neg hKM])
      clear h0 hk hab hKM
      go_enter Try.func16, Try.ntmps16
      go_wp2_with fail
      refine (HCODE.out).mono ?_
      rintro e w2 ⟨rfl, hb2⟩
      have p_2 := ((Bx.new_ w (w.heap.size) 26 #[.int .i64 wd, .int .i64 ht, .slice A xs.length c] (by simp)).alloc (.cells #[.int .i64 (K : Int), .int .i64 (M : Int)] 2)).below hb2
      obtain ⟨pa_2, pb_2, pc_2⟩ := (p_2).three
      have z_2 : ((w.alloc (.cells #[.int .i64 wd, .int .i64 ht, .slice A xs.length c] 26)).alloc (.cells #[.int .i64 (K : Int), .int .i64 (M : Int)] 2)).heap.size ≤ w2.heap.size := hb2.size
      simp only [World.size_alloc] at z_2
      have B_2 := (((Below.refl w.heap.size w).alloc (by first | omega | (simp; omega) | simp) (.cells #[.int .i64 wd, .int .i64 ht, .slice A xs.length c] 26)).alloc (by first | omega | (simp; omega) | simp) (.cells #[.int .i64 (K : Int), .int .i64 (M : Int)] 2)).trans (hb2.mono (by first | omega | (simp; omega) | simp))
      rw [HC0.out]
      go_wp2_with fail
      refine (linkings_any wd ht A c xs _ (hxs.below (B_2)) hcap hs hl hn).mono ?_
      rintro e w3 ⟨A3, c3, rfl, own, hb3⟩
      have p_3 := (p_2).below hb3
      obtain ⟨pa_3, pb_3, pc_3⟩ := (p_3).three
      have z_3 : w2.heap.size ≤ w3.heap.size := hb3.size
      have B_3 := (B_2).trans (hb3.mono (by first | omega | (simp; omega) | simp))
      have own2 : OwnC w3 w2.heap.size w3.heap.size A3 c3 (tab (cvN wd ht xs) (lkO (dirC wd ht xs true) (dirC wd ht xs false) (sgL wd ht xs) (crN xs))) := own
      obtain ⟨g, B, d, rfl, _, hg, _, hB, _, hh, hcc, _, _⟩ := own2.tabAt hk1 hm1
      rw [HO.out] at hcc
      have HTL : Hid ((tabO wd ht xs (crN xs)).length = cvN wd ht xs) := hide (by unfold tabO; rw [tab_len]; rfl)
      rw [HTL.out]
      obtain ⟨x, hx⟩ : ∃ x, x = lkN wd ht xs K M := ⟨_, rfl⟩
      rw [← hx] at hbd hcc HR
      clear own own2 hx
      go_wp2_with fail
      go_ret2
      rw [HR.out]
      exact ⟨rfl, (B_3)⟩
  ·
    have HR := hide (lnkR_no h0)
    obtain ⟨v, hvv⟩ : ∃ v, v = cvC wd ht xs [a, b] := ⟨_, rfl⟩
    rw [← hvv] at HR h0
    have HVV := hide hvv
    have d0 : (v != 0) = true := by simpa using h0
    clear h0 hvv
    go_enter Try.func16, Try.ntmps16
    go_wp2_with fail
    refine (HCODE.out).mono ?_
    rintro e w4 ⟨rfl, hb4⟩
    have p_4 := ((Bx.new_ w (w.heap.size) 26 #[.int .i64 wd, .int .i64 ht, .slice A xs.length c] (by simp)).alloc (.cells #[.int .i64 a, .int .i64 b] 2)).below hb4
    obtain ⟨pa_4, pb_4, pc_4⟩ := (p_4).three
    have z_4 : ((w.alloc (.cells #[.int .i64 wd, .int .i64 ht, .slice A xs.length c] 26)).alloc (.cells #[.int .i64 a, .int .i64 b] 2)).heap.size ≤ w4.heap.size := hb4.size
    simp only [World.size_alloc] at z_4
    have B_4 := (((Below.refl w.heap.size w).alloc (by first | omega | (simp; omega) | simp) (.cells #[.int .i64 wd, .int .i64 ht, .slice A xs.length c] 26)).alloc (by first | omega | (simp; omega) | simp) (.cells #[.int .i64 a, .int .i64 b] 2)).trans (hb4.mono (by first | omega | (simp; omega) | simp))
    rw [← HVV.out]
    go_wp2_with fail
    go_ret2
    rw [HR.out]
    exact ⟨rfl, (B_4)⟩
end Go.Proofs.Ytmjeafklafjakaa
