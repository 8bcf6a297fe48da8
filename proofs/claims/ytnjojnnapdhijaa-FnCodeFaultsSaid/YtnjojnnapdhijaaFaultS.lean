/-
  Contract: the first fault of a code (l15Fault), of the reference. Conditions: none beyond the lengths.
-/
import Derived.Test.YtnjojnnapdhijaaOddS
import Derived.Test.YtnjojnnapdhijaaFaultI
namespace Go.Proofs.Ytnjojnnapdhijaa
open Go.RowKit
set_option linter.unusedVariables false

theorem badP_old {code : List (List Int)} {i k : Nat} {xs : List Int} {x : Int} (h : code[i]? = some xs) (hx : xs[k]? = some x) (ho : x ∈ upTo code i k) : badP code (x, (i : Int), (k : Int)) = true := by
  obtain ⟨a, b, h1, h2⟩ := placeOf_again h hx ho
  unfold badP
  rw [h1]
  simp
  exact .inr (fun e1 e2 => h2 ⟨e1, e2⟩)
theorem badP_new {code : List (List Int)} {i k : Nat} {xs : List Int} {x : Int} (h : code[i]? = some xs) (hx : xs[k]? = some x) (hn : x ∉ upTo code i k) (h0 : x ≠ 0) (hin : inB x (-halfC code) (halfC code) = true) : badP code (x, (i : Int), (k : Int)) = false := by
  unfold badP
  rw [placeOf_first h hx hn]
  simp [h0, hin]
theorem run_make_flags (n : Nat) (hn : n ≤ 240) (W : World) :
    (Instr.makeSlice 71 (.int .i64 ((n : Int) + 1)) (.int .i64 ((n : Int) + 1))).run Try.prog W = .ok (.slice (some ⟨W.heap.size, 0, none⟩) (n + 1) (n + 1)) (W.alloc (.cells (madeCells boolE.z.cells ((n + 1) * boolE.size)) 4)) := by
  have := boolE.run_make (n + 1) (by simp [boolE]; omega) (by omega) W
  rw [show ((n + 1 : Nat) : Int) = (n : Int) + 1 by omega] at this
  exact this
theorem mem_flat {code : List (List Int)} {i k : Nat} {xs : List Int} {x : Int} (h : code[i]? = some xs) (hx : xs[k]? = some x) : x ∈ code.flatten := List.mem_flatten.2 ⟨xs, List.mem_of_getElem? h, List.mem_of_getElem? hx⟩

set_option maxRecDepth 100000 in
set_option maxHeartbeats 16000000 in
theorem specFault_any (A : Option Addr) (c T : Nat) (code : List (List Int)) (w : World) (hc : RC w T A code) (hn : code.length + sumLen code ≤ 1048576) :
    Calls Try.prog 59 #[.slice A code.length c] w (RetV w (fV (faultC code))) := by
  have HS := hide (sumLen_take_le code)
  by_cases h40 : 40 < code.length
  · have HF := hide (fV_mk (fault_long h40))
    go_enter Try.func59, Try.ntmps59
    go_wp2_with fail
    refine bodyPost_ret (v := .tuple #[.int .i64 1, .int .i64 0, .int .i64 0]) (by simp [results, Try.results59, go_sem]) rfl ?_
    rw [HF.out]
    exact ⟨rfl, Below.refl _ _⟩
  · have H40 := hide h40
    go_enter Try.func59, Try.ntmps59
    go_wp2_with fail
    go_loop [5, 6] (fun s i => ∃ k : Nat, k ≤ code.length ∧ i = .int .i64 k ∧ s = .int .i64 (sumLen (code.take k) : Int) ∧ sumLen (code.take k) ≤ 240 ∧ Hid (∀ j, j < k → manyP code j = false)) (fun _ i => code.length - (intOf i).toNat)
    case atStart => exact ⟨0, Nat.zero_le _, rfl, by simp [sumLen_nil], by simp [sumLen_nil], hide (fun j hj => absurd hj (by omega))⟩
    case round =>
      obtain ⟨k, hk, rfl, rfl, h240, hmany⟩ := hrel
      by_cases hlt : k < code.length
      · obtain ⟨b, off, B, d, xs, rfl, hb, hx, hce, hd1, hd2, hr⟩ := hc.row hlt
        have h1 := sumLen_next hx
        have h2 := HS.out (k + 1)
        have h4 : xs.length ≤ 1048576 := by omega
        obtain ⟨S, hS⟩ : ∃ S, S = sumLen (code.take (k + 1)) := ⟨_, rfl⟩
        have H1 : Hid ((sumLen (code.take k) : Int) + (xs.length : Int) = (S : Int)) := hide (by omega)
        have h3 := H1.out
        have HSS := hide hS
        by_cases hbig : 240 < S
        · have HF := hide (fV_mk (fault_many H40.out hlt hmany.out (decide_eq_true (by omega))))
          have h5 : (240 : Int) < (S : Int) := by omega
          clear h1 h2 hx hS
          go_wp2_with fail
          refine bodyPost_ret (v := .tuple #[.int .i64 1, .int .i64 (k : Int), .int .i64 0]) (by simp [results, Try.results59, go_sem]) rfl ?_
          rw [HF.out]
          exact ⟨rfl, Below.refl _ _⟩
        · have HM : Hid (∀ j, j < k + 1 → manyP code j = false) := hide (fun j hj => by
            rcases Nat.lt_or_ge j k with h | h
            · exact hmany.out j h
            · obtain rfl : j = k := by omega
              exact decide_eq_false (by omega))
          have h5 : ¬ (240 : Int) < (S : Int) := by omega
          clear h1 h2 hx hS
          go_wp2_with fail
          go_round
          case rel => exact ⟨k + 1, by omega, by go_num, by rw [HSS.out], by have := HSS.out; omega, HM⟩
          case measure => simp [intOf]; omega
      · obtain rfl : k = code.length := by omega
        obtain ⟨S, hS⟩ : ∃ S, S = sumLen code := ⟨_, rfl⟩
        have ht : (sumLen code : Int) = (S : Int) := by rw [hS]
        have hsum : S ≤ 240 := by rw [List.take_of_length_le (Nat.le_refl _)] at h240; omega
        have hhb := half_bound (code := code) (by omega)
        obtain ⟨M, hM⟩ : ∃ M, M = halfC code := ⟨_, rfl⟩
        have e1 : ((S : Int) + 1) / 2 = M := by rw [hM, hS]; rfl
        have e2 : Int.tdiv (-((S : Int) + 1)) 2 = -M := by rw [Int.neg_tdiv, Int.tdiv_eq_ediv_of_nonneg (by omega), e1]
        have e3 : Int.tdiv ((S : Int) + 1) 2 = M := by rw [Int.tdiv_eq_ediv_of_nonneg (by omega), e1]
        rw [← hM] at hhb
        obtain ⟨hm0, hm1⟩ := hhb
        have hMS : M ≤ (S : Int) ∨ S = 0 := by omega
        have HM := hide hM
        have HSS := hide hS
        have hmk := fun W : World => run_make_flags S hsum W
        have hnew0 : Own boolE (w.alloc (.cells (madeCells boolE.z.cells ((S + 1) * boolE.size)) 4)) w.heap.size (some ⟨w.heap.size, 0, none⟩) (S + 1) (flagL S posG []) := by
          rw [flagL_nil]
          exact Own.made (E := boolE) w _ false rfl rfl (Nat.le_refl _) (by omega)
        have hnew1 : Own boolE ((w.alloc (.cells (madeCells boolE.z.cells ((S + 1) * boolE.size)) 4)).alloc (.cells (madeCells boolE.z.cells ((S + 1) * boolE.size)) 4)) w.heap.size (some ⟨w.heap.size + 1, 0, none⟩) (S + 1) (flagL S negG []) := by
          rw [flagL_nil]
          exact Own.made (E := boolE) _ _ false rfl (by simp) (by simp) (by omega)
        clear hM h240 hS
        go_wp2_with fail
        clear hmk ht
        go_loopw [9] (fun s wr => ∃ i : Nat, i ≤ code.length ∧ s = .int .i64 i ∧ Hid ((posTo code i 0).find? (badP code) = none) ∧ Own boolE wr w.heap.size (some ⟨w.heap.size, 0, none⟩) (S + 1) (flagL S posG (upTo code i 0)) ∧ Own boolE wr w.heap.size (some ⟨w.heap.size + 1, 0, none⟩) (S + 1) (flagL S negG (upTo code i 0)) ∧ Below w.heap.size w wr) (fun s _ => code.length - (intOf s).toNat)
        case atStart => exact ⟨0, Nat.zero_le _, rfl, hide (by rw [posTo_zero]; rfl), by rw [upTo_zero]; exact hnew0.alloc _, by rw [upTo_zero]; exact hnew1, ((Below.refl _ _).alloc (Nat.le_refl _) _).alloc (by simp) _⟩
        case round =>
          clear hnew0 hnew1
          obtain ⟨i, hi, rfl, hbad, own0, own1, hB⟩ := hrel
          obtain ⟨wo, rfl⟩ : ∃ wo : World, wo = wr := ⟨_, rfl⟩
          by_cases hlt : i < code.length
          · obtain ⟨b, off, B, d, xs, rfl, hb, hx, hce, hd1, hd2, hr⟩ := (hc.below hB).row hlt
            have HX := hide hx
            clear hx
            go_wp2_with fail
            go_loopw [10] (fun s wr => ∃ k : Nat, k ≤ xs.length ∧ s = .int .i64 k ∧ Hid ((posTo code i k).find? (badP code) = none) ∧ Own boolE wr w.heap.size (some ⟨w.heap.size, 0, none⟩) (S + 1) (flagL S posG (upTo code i k)) ∧ Own boolE wr w.heap.size (some ⟨w.heap.size + 1, 0, none⟩) (S + 1) (flagL S negG (upTo code i k)) ∧ Below w.heap.size w wr) (fun s _ => xs.length - (intOf s).toNat)
            case atStart => exact ⟨0, Nat.zero_le _, rfl, hbad, own0, own1, hB⟩
            case round =>
              clear own0 own1 hbad hce hr hb hB
              obtain ⟨k, hk, rfl, hbad, own0, own1, hB⟩ := hrel
              obtain ⟨b', off', B', d', xs', hA', hb, hx', hce, _, _, hr⟩ := (hc.below hB).row hlt
              injection hA' with hA'; injection hA' with q1 q2; subst q1 q2
              have HX' := HX.out
              rw [hx'] at HX'
              injection HX' with HX'
              subst HX'
              clear hx'
              by_cases hkl : k < xs'.length
              · obtain ⟨b2, off2, x, rfl, hb2, hx, hcx⟩ := hr.at_ hkl
                by_cases hx0 : x = 0
                · have HF := hide (fV_mk (fault_bad H40.out hmany.out (find_hit HX.out hx hbad.out (by unfold badP; simp [hx0]))))
                  have HK : Hid (badKind code (x, (i : Int), (k : Int)) = 2) := hide (by unfold badKind; rw [if_pos hx0])
                  have t0 : (x == 0) = true := by simp [hx0]
                  clear hx hx0
                  go_wp2_with fail
                  refine bodyPost_ret (v := .tuple #[.int .i64 2, .int .i64 (i : Int), .int .i64 (k : Int)]) (by simp [results, Try.results59, go_sem]) rfl ?_
                  rw [HF.out, HK.out]
                  exact ⟨rfl, hB⟩
                · have t0 : (x == 0) = false := by simp [hx0]
                  cases hin : inB x (-M) M
                  · have HF := hide (fV_mk (fault_bad H40.out hmany.out (find_hit HX.out hx hbad.out (by unfold badP; rw [← HM.out]; simp [hin]))))
                    have HK : Hid (badKind code (x, (i : Int), (k : Int)) = 3) := hide (by unfold badKind; rw [if_neg hx0, if_pos (by rw [← HM.out]; exact hin)])
                    clear hx hx0
                    go_wp2_with (go_at_call 65; refine (l00In_any _ _ _ _).mono ?_; rintro e w' ⟨rfl, rfl⟩)
                    refine bodyPost_ret (v := .tuple #[.int .i64 3, .int .i64 (i : Int), .int .i64 (k : Int)]) (by simp [results, Try.results59, go_sem]) rfl ?_
                    rw [HF.out, HK.out]
                    exact ⟨rfl, hB⟩
                  · have hab := inB_abs hin
                    have hup := upTo_next HX.out hx
                    have HK4 : Hid (badKind code (x, (i : Int), (k : Int)) = 4) := hide (by unfold badKind; rw [if_neg hx0, if_neg (by rw [← HM.out, hin]; simp)])
                    have HNEW : Hid (x ∉ upTo code i k → (posTo code i (k + 1)).find? (badP code) = none) := hide (fun hm => find_next HX.out hx hbad.out (badP_new HX.out hx hm hx0 (by rw [← HM.out]; exact hin)))
                    have HOLD : Hid (x ∈ upTo code i k → fV (faultC code) = .tuple #[.int .i64 (badKind code (x, (i : Int), (k : Int))), .int .i64 (i : Int), .int .i64 (k : Int)]) := hide (fun hm => fV_mk (fault_bad H40.out hmany.out (find_hit HX.out hx hbad.out (badP_old HX.out hx hm))))
                    by_cases hpos : 0 < x
                    · obtain ⟨m, hm⟩ : ∃ m : Nat, x = (m : Int) := ⟨x.toNat, by omega⟩
                      subst hm
                      have hm1 : m < S + 1 := by omega
                      have hs := flagL_at (g := posG) (l := upTo code i k) hm1
                      obtain ⟨g, hg1, hg2, hg3, hg4, hg5, hg6⟩ := boolE_at own0 hs
                      injection hg1 with hg1; injection hg1 with hg1; subst hg1
                      have hmI2 : (m : Int) < (S : Int) + 1 := by omega
                      have hnneg : ¬ ((m : Int) < 0) := by omega
                      by_cases hmem : (m : Int) ∈ upTo code i k
                      · have HF := hide (HOLD.out hmem)
                        rw [show posG m = (m : Int) from rfl, decide_eq_true hmem] at hg4
                        clear hx hx0 hs hg6 hmem hup hab HNEW HOLD
                        go_wp2_with (go_at_call 65; refine (l00In_any _ _ _ _).mono ?_; rintro e w' ⟨rfl, rfl⟩)
                        refine bodyPost_ret (v := .tuple #[.int .i64 4, .int .i64 (i : Int), .int .i64 (k : Int)]) (by simp [results, Try.results59, go_sem]) rfl ?_
                        rw [HF.out, HK4.out]
                        exact ⟨rfl, hB⟩
                      · have HB := hide (HNEW.out hmem)
                        rw [show posG m = (m : Int) from rfl, decide_eq_false hmem] at hg4
                        have hset := hg6 true
                        rw [flagL_set (x := (m : Int)) posG_inj rfl hm1, ← hup] at hset
                        have HO := hide hset.1
                        have HO1 : Hid (Own boolE (wr.setCell ⟨w.heap.size, m, none⟩ (.bool true)) w.heap.size (some ⟨w.heap.size + 1, 0, none⟩) (S + 1) (flagL S negG (upTo code i (k + 1)))) := hide (by
                          rw [hup, flagL_other (fun j => by unfold negG; omega)]
                          exact own1.setFar (by simp [blk]) _)
                        clear hx hx0 hs hg6 hmem hup hab HNEW HOLD hset
                        go_wp2_with (go_at_call 65; refine (l00In_any _ _ _ _).mono ?_; rintro e w' ⟨rfl, rfl⟩)
                        go_roundw
                        case rel => exact ⟨k + 1, by omega, by go_num, HB, HO.out, HO1.out, hB.setCell (Nat.le_refl _) _⟩
                        case measure => simp [intOf]; omega
                    · obtain ⟨m, hm⟩ : ∃ m : Nat, -x = (m : Int) := ⟨(-x).toNat, by omega⟩
                      have hxm : x = negG m := by unfold negG; omega
                      have wn : IntKind.i64.wrap (-x) = (m : Int) := by rw [IntKind.wrap_i64]; omega
                      have hm1 : m < S + 1 := by omega
                      have hs := flagL_at (g := negG) (l := upTo code i k) hm1
                      obtain ⟨g, hg1, hg2, hg3, hg4, hg5, hg6⟩ := boolE_at own1 hs
                      injection hg1 with hg1; injection hg1 with hg1; subst hg1
                      have hmI2 : (m : Int) < (S : Int) + 1 := by omega
                      have hneg : x < 0 := by omega
                      have HNM := hide hm
                      by_cases hmem : x ∈ upTo code i k
                      · have HF := hide (HOLD.out hmem)
                        rw [← hxm, decide_eq_true hmem] at hg4
                        clear hx hx0 hs hg6 hmem hup hab HNEW HOLD hxm
                        go_wp2_with (go_at_call 65; refine (l00In_any _ _ _ _).mono ?_; rintro e w' ⟨rfl, rfl⟩)
                        refine bodyPost_ret (v := .tuple #[.int .i64 4, .int .i64 (i : Int), .int .i64 (k : Int)]) (by simp [results, Try.results59, go_sem]) rfl ?_
                        rw [HF.out, HK4.out]
                        exact ⟨rfl, hB⟩
                      · have HB := hide (HNEW.out hmem)
                        rw [← hxm, decide_eq_false hmem] at hg4
                        have hset := hg6 true
                        rw [flagL_set (x := x) negG_inj hxm hm1, ← hup] at hset
                        have HO := hide hset.1
                        have HO1 : Hid (Own boolE (wr.setCell ⟨w.heap.size + 1, m, none⟩ (.bool true)) w.heap.size (some ⟨w.heap.size, 0, none⟩) (S + 1) (flagL S posG (upTo code i (k + 1)))) := hide (by
                          rw [hup, flagL_other (fun j => by unfold posG; omega)]
                          exact own0.setFar (by simp [blk]) _)
                        clear hx hx0 hs hg6 hmem hup hab HNEW HOLD hset hxm
                        go_wp2_with (go_at_call 65; refine (l00In_any _ _ _ _).mono ?_; rintro e w' ⟨rfl, rfl⟩)
                        go_roundw
                        case rel => exact ⟨k + 1, by omega, by go_num, HB, HO1.out, HO.out, hB.setCell (by simp) _⟩
                        case measure => simp [intOf]; omega
              · have HB : Hid ((posTo code (i + 1) 0).find? (badP code) = none) := hide (by rw [← posTo_row (k := k) HX.out (by omega)]; exact hbad.out)
                have hup := upTo_row (k := k) HX.out (by omega)
                rw [hup] at own0 own1
                clear hup
                go_wp2_with fail
                go_roundw
                case rel => exact ⟨i + 1, by omega, by go_num, HB, own0, own1, hB⟩
                case measure => simp [intOf]; omega
          · have HBAD : Hid ((posC code).find? (badP code) = none) := hide (by rw [← posTo_all (show code.length ≤ i by omega)]; exact hbad.out)
            have hgood : Hid (∀ (i k : Nat) (xs : List Int) (x : Int), code[i]? = some xs → xs[k]? = some x → x ≠ 0 ∧ inB x (-halfC code) (halfC code) = true) := hide (fun i k xs x h1 h2 => good_of_bad HBAD.out h1 h2)
            have hall := upTo_all (show code.length ≤ i by omega)
            rw [hall] at own0 own1
            clear hbad hall
            go_wp2_with fail
            have hcB := hc.below hB
            go_loop [12] (fun s => ∃ i : Nat, i ≤ code.length ∧ s = .int .i64 i ∧ Hid ((posTo code i 0).find? (absentP code) = none)) (fun s => code.length - (intOf s).toNat)
            case atStart => exact ⟨0, Nat.zero_le _, rfl, hide (by rw [posTo_zero]; rfl)⟩
            case round =>
              obtain ⟨i, hi, rfl, hab⟩ := hrel
              by_cases hlt : i < code.length
              · obtain ⟨b, off, B, d, xs, rfl, hb, hx, hce, hd1, hd2, hr⟩ := hcB.row hlt
                have HX := hide hx
                have hxl := sumLen_row hx
                clear hx
                go_wp2_with fail
                go_loop [13] (fun s => ∃ k : Nat, k ≤ xs.length ∧ s = .int .i64 k ∧ Hid ((posTo code i k).find? (absentP code) = none)) (fun s => xs.length - (intOf s).toNat)
                case atStart => exact ⟨0, Nat.zero_le _, rfl, hab⟩
                case round =>
                  clear hab
                  obtain ⟨k, hk, rfl, hab⟩ := hrel
                  by_cases hkl : k < xs.length
                  · obtain ⟨b2, off2, x, rfl, hb2, hx, hcx⟩ := hr.at_ hkl
                    obtain ⟨hx0, g2⟩ := hgood.out i k xs x HX.out hx
                    have g3 := inB_abs g2
                    rw [← HM.out] at g3
                    have HAB : Hid (-x ∉ code.flatten → fV (faultC code) = .tuple #[.int .i64 5, .int .i64 (i : Int), .int .i64 (k : Int)]) := hide (fun hm => fV_mk (fault_absent H40.out hmany.out HBAD.out (find_hit HX.out hx hab.out (by unfold absentP; simp [placeOf_none.2 hm]))))
                    have HN : Hid (-x ∈ code.flatten → (posTo code i (k + 1)).find? (absentP code) = none) := hide (fun hm => find_next HX.out hx hab.out (by
                      unfold absentP
                      cases ho : placeOf code (-x) with
                      | none => exact absurd hm (placeOf_none.1 ho)
                      | some q => simp))
                    by_cases hpos : 0 < x
                    · obtain ⟨m, hm⟩ : ∃ m : Nat, x = (m : Int) := ⟨x.toNat, by omega⟩
                      subst hm
                      have hm1 : m < S + 1 := by omega
                      have hs := flagL_at (g := negG) (l := code.flatten) hm1
                      obtain ⟨g, hg1, hg2, hg3, hg4, hg5, hg6⟩ := boolE_at own1 hs
                      injection hg1 with hg1; injection hg1 with hg1; subst hg1
                      have hmI2 : (m : Int) < (S : Int) + 1 := by omega
                      have hnneg : ¬ ((m : Int) < 0) := by omega
                      by_cases hmem : -(m : Int) ∈ code.flatten
                      · have HB := hide (HN.out hmem)
                        rw [show negG m = -(m : Int) from rfl, decide_eq_true hmem] at hg4
                        clear hx hs hg6 hmem HN HAB g2 g3
                        go_wp2_with fail
                        go_round
                        case rel => exact ⟨k + 1, by omega, by go_num, HB⟩
                        case measure => simp [intOf]; omega
                      · have HF := hide (HAB.out hmem)
                        rw [show negG m = -(m : Int) from rfl, decide_eq_false hmem] at hg4
                        clear hx hs hg6 hmem HN HAB g2 g3
                        go_wp2_with fail
                        refine bodyPost_ret (v := .tuple #[.int .i64 5, .int .i64 (i : Int), .int .i64 (k : Int)]) (by simp [results, Try.results59, go_sem]) rfl ?_
                        rw [HF.out]
                        exact ⟨rfl, hB⟩
                    · obtain ⟨m, hm⟩ : ∃ m : Nat, -x = (m : Int) := ⟨(-x).toNat, by omega⟩
                      have hxm : posG m = -x := by unfold posG; omega
                      have wn : IntKind.i64.wrap (-x) = (m : Int) := by rw [IntKind.wrap_i64]; omega
                      have hm1 : m < S + 1 := by omega
                      have hs := flagL_at (g := posG) (l := code.flatten) hm1
                      obtain ⟨g, hg1, hg2, hg3, hg4, hg5, hg6⟩ := boolE_at own0 hs
                      injection hg1 with hg1; injection hg1 with hg1; subst hg1
                      have hmI2 : (m : Int) < (S : Int) + 1 := by omega
                      have hneg : x < 0 := by omega
                      have HNM := hide hm
                      by_cases hmem : -x ∈ code.flatten
                      · have HB := hide (HN.out hmem)
                        rw [hxm, decide_eq_true hmem] at hg4
                        clear hx hs hg6 hmem HN HAB g2 g3 hxm
                        go_wp2_with fail
                        go_round
                        case rel => exact ⟨k + 1, by omega, by go_num, HB⟩
                        case measure => simp [intOf]; omega
                      · have HF := hide (HAB.out hmem)
                        rw [hxm, decide_eq_false hmem] at hg4
                        clear hx hs hg6 hmem HN HAB g2 g3 hxm
                        go_wp2_with fail
                        refine bodyPost_ret (v := .tuple #[.int .i64 5, .int .i64 (i : Int), .int .i64 (k : Int)]) (by simp [results, Try.results59, go_sem]) rfl ?_
                        rw [HF.out]
                        exact ⟨rfl, hB⟩
                  · have HB : Hid ((posTo code (i + 1) 0).find? (absentP code) = none) := hide (by rw [← posTo_row (k := k) HX.out (by omega)]; exact hab.out)
                    go_wp2_with fail
                    go_round
                    case rel => exact ⟨i + 1, by omega, by go_num, HB⟩
                    case measure => simp [intOf]; omega
              · have HAB : Hid ((posC code).find? (absentP code) = none) := hide (by rw [← posTo_all (show code.length ≤ i by omega)]; exact hab.out)
                have HAP := hide (apart_of_bad HBAD.out)
                clear hab own0 own1 hcB
                go_wp2_with fail
                go_loopw [15] (fun s wr => ∃ i : Nat, i ≤ code.length ∧ s = .int .i64 i ∧ Hid ((posTo code i 0).find? (oddP code) = none) ∧ Below w.heap.size w wr) (fun s _ => code.length - (intOf s).toNat)
                case atStart => exact ⟨0, Nat.zero_le _, rfl, hide (by rw [posTo_zero]; rfl), hB⟩
                case round =>
                  clear hB
                  obtain ⟨i, hi, rfl, hab, hB⟩ := hrel
                  obtain ⟨wo, rfl⟩ : ∃ wo : World, wo = wr := ⟨_, rfl⟩
                  have hz := hB.size
                  by_cases hlt : i < code.length
                  · obtain ⟨b, off, B, d, xs, rfl, hb, hx, hce, hd1, hd2, hr⟩ := (hc.below hB).row hlt
                    have HX := hide hx
                    have hxl := sumLen_row hx
                    have hxn : xs.length ≤ 1048576 := by omega
                    have hbnd : ∀ y ∈ xs, -9223372036854775808 < y ∧ y ≤ 9223372036854775807 := fun y hy => by
                      obtain ⟨k, hk⟩ := List.mem_iff_getElem?.1 hy
                      have g3 := inB_abs (hgood.out i k xs y HX.out hk).2
                      rw [← HM.out] at g3
                      omega
                    have HBND := hide hbnd
                    clear hx hbnd
                    rcases firstOdd_cases xs with ⟨k, hfo, hkl, hok, hno⟩ | ⟨hfo, hno⟩
                    · have hxk : xs[k]? = some xs[k] := List.getElem?_eq_getElem hkl
                      have hpre : ∀ j, j ≤ k → (posTo code i j).find? (oddP code) = none := fun j => by
                        induction j with
                        | zero => exact fun _ => hab.out
                        | succ j ih => exact fun hj => find_next HX.out (List.getElem?_eq_getElem (show j < xs.length by omega)) (ih (by omega)) (by
                            unfold oddP
                            rw [oddX_eq HAP.out HX.out (List.getElem?_eq_getElem (show j < xs.length by omega))]
                            exact hno j (by omega))
                      have HF := hide (fV_mk (fault_odd H40.out hmany.out HBAD.out HAB.out (find_hit HX.out hxk (hpre k (Nat.le_refl _)) (by
                        unfold oddP
                        rw [oddX_eq HAP.out HX.out hxk]
                        exact hok))))
                      have hk0 : (0 : Int) ≤ (k : Int) := by omega
                      clear hxk hpre hno hok
                      go_wp2_with fail
                      refine (l15Odd_any _ _ xs _ hr hxn HBND.out).mono ?_
                      rw [hfo]
                      rintro e w2 ⟨rfl, hb2⟩
                      have hB2 := hB.trans (hb2.mono hz)
                      clear hfo
                      go_wp2_with fail
                      refine bodyPost_ret (v := .tuple #[.int .i64 6, .int .i64 (i : Int), .int .i64 (k : Int)]) (by simp [results, Try.results59, go_sem]) rfl ?_
                      rw [HF.out]
                      exact ⟨rfl, hB2⟩
                    · have hpre : ∀ j, j ≤ xs.length → (posTo code i j).find? (oddP code) = none := fun j => by
                        induction j with
                        | zero => exact fun _ => hab.out
                        | succ j ih => exact fun hj => find_next HX.out (List.getElem?_eq_getElem (show j < xs.length by omega)) (ih (by omega)) (by
                            unfold oddP
                            rw [oddX_eq HAP.out HX.out (List.getElem?_eq_getElem (show j < xs.length by omega))]
                            exact hno j (by omega))
                      have HB : Hid ((posTo code (i + 1) 0).find? (oddP code) = none) := hide (by rw [← posTo_row HX.out (Nat.le_refl _)]; exact hpre _ (Nat.le_refl _))
                      clear hpre hno
                      go_wp2_with fail
                      refine (l15Odd_any _ _ xs _ hr hxn HBND.out).mono ?_
                      rw [hfo]
                      rintro e w2 ⟨rfl, hb2⟩
                      have hB2 := hB.trans (hb2.mono hz)
                      clear hfo
                      go_wp2_with fail
                      go_roundw
                      case rel => exact ⟨i + 1, by omega, by go_num, HB, hB2⟩
                      case measure => simp [intOf]; omega
                  · have HF := hide (fV_mk (fault_none H40.out hmany.out HBAD.out HAB.out (by rw [← posTo_all (show code.length ≤ i by omega)]; exact hab.out)))
                    go_wp2_with fail
                    refine bodyPost_ret (v := .tuple #[.int .i64 0, .int .i64 0, .int .i64 0]) (by simp [results, Try.results59, go_sem]) rfl ?_
                    rw [HF.out]
                    exact ⟨rfl, hB⟩
end Go.Proofs.Ytnjojnnapdhijaa
