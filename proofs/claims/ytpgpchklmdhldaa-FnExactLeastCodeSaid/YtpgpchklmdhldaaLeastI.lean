/-
  Contract: LeastCode, of the program. Conditions: none beyond the lengths.
-/
import Derived.Test.YtpgpchklmdhldaaLeastS
import Derived.Test.YtpgpchklmdhldaaRev
namespace Go.Proofs.Ytpgpchklmdhldaa
open Go.RowKit
set_option linter.unusedVariables false

theorem triTo_len (xs : List Int) (m : Nat) : ∀ l ∈ triTo xs m, l.length ≤ xs.length := fun l hl => by
  unfold triTo at hl
  obtain ⟨a, ha, rfl⟩ := List.mem_map.1 hl
  have h1 := renL_len (xs.drop a ++ xs.take a)
  rw [List.length_append, List.length_drop, List.length_take] at h1
  omega
theorem run_pair0 (A B : Option Addr) (n c m d : Nat) (W : World) : (Instr.index 76 (.agg #[.slice A n c, .slice B m d]) (.int .i64 0)).run Try.prog W = .ok (.slice A n c) W := by
  have up := Try.underlying76
  have ha : (isAgg 33).run Try.prog W = .ok false W := by kernel_rfl
  have hs : (Go.sizeOf 33).run Try.prog W = .ok 1 W := by kernel_rfl
  simp [Instr.index, run_underlying Try.underlying76, go_sem, Result.andThen, ha, hs]
theorem run_pair1 (A B : Option Addr) (n c m d : Nat) (W : World) : (Instr.index 76 (.agg #[.slice A n c, .slice B m d]) (.int .i64 1)).run Try.prog W = .ok (.slice B m d) W := by
  have up := Try.underlying76
  have ha : (isAgg 33).run Try.prog W = .ok false W := by kernel_rfl
  have hs : (Go.sizeOf 33).run Try.prog W = .ok 1 W := by kernel_rfl
  simp [Instr.index, run_underlying Try.underlying76, go_sem, Result.andThen, ha, hs]
/-- What has been tried before curve i. -/
def triedB (xs : List Int) (i : Nat) : List (List Int) := if i = 0 then [] else if i = 1 then triTo xs xs.length else triTo xs xs.length ++ triTo xs.reverse xs.reverse.length
theorem triedB_all (xs : List Int) : leastL (renL xs) (triedB xs 2) = leastR xs := by
  unfold triedB
  rw [if_neg (by decide), if_neg (by decide)]
  exact tri_same
set_option maxRecDepth 100000 in
set_option maxHeartbeats 16000000 in
theorem implLeast_any (A : Option Addr) (c T : Nat) (code : List (List Int)) (w : World) (hc : RC w T A code) (hn : code.length + sumLen code ≤ 1048576) :
    Calls Try.prog 30 #[.slice A code.length c] w (RetCC w (leastCR code).1 (leastCR code).2) := by
  cases hv : validC code
  · have HV : Hid (leastCR code = ([], 1)) := hide (by unfold leastCR; rw [if_neg (by rw [hv]; simp)])
    go_enter Try.func30, Try.ntmps30
    go_wp2_with fail
    refine (validCode_any _ _ T code _ hc hn).mono ?_
    rw [hv]
    rintro e w1 ⟨rfl, hb1⟩
    clear hv
    go_wp2_with fail
    refine bodyPost_ret (v := .tuple #[.slice none 0 0, .int .i64 1]) (by simp [results, Try.results30, go_sem]) rfl ?_
    rw [HV.out]
    exact ⟨none, 0, rfl, OwnC.nil _ _ _, hb1⟩
  · by_cases h1 : code.length = 1
    · obtain ⟨xs, rfl⟩ : ∃ xs, code = [xs] := List.length_eq_one_iff.1 h1
      have HV : Hid (leastCR [xs] = ([leastR xs], 0)) := hide (by unfold leastCR; rw [if_pos hv, if_pos h1]; rfl)
      obtain ⟨hs1, hs2, hs3⟩ := valid_sum hv
      have HW := hide (valid_wide hv)
      have HR : Hid (renameC [xs] = [renL xs]) := hide (renameC_one xs)
      obtain ⟨b, off, B, d, ys, rfl, hb, hy, hce0, hd1, hd2, hr0⟩ := hc.row (k := 0) (by simp)
      obtain rfl : ys = xs := by simpa using hy.symm
      rw [Nat.add_zero] at hce0
      rw [sumLen_one] at hn hs2
      have hyl : ys.length ≤ 240 := hs2
      have hn2 : Hid ([ys].length + sumLen [ys] ≤ 1048576) := hide (by rw [sumLen_one]; simp; omega)
      have HD := hide (And.intro hd1 hd2)
      clear hy hd1 hd2 hs1 hs2 hs3
      go_enter Try.func30, Try.ntmps30
      go_wp2_with fail
      refine (validCode_any _ _ T [ys] _ hc hn2.out).mono ?_
      rw [hv]
      rintro e w1 ⟨rfl, hb1⟩
      clear hv
      go_wp2_with fail
      refine (renameCode_any _ _ T [ys] _ (hc.below hb1) hn2.out HW.out).mono ?_
      rw [HR.out]
      rintro e w2 ⟨A2, c2, rfl, own2, hb2⟩
      have hB2 := hb1.trans (hb2.mono hb1.size)
      have own2' := own2.mono hb1.size (Nat.le_refl _)
      have hz2 := hB2.size
      have hce2 := (hB2.cell (p := ⟨b, off, none⟩) hb).trans hce0
      go_wp2_with fail
      refine (slicesClone_any _ _ ys _ (hr0.below hB2) (by omega)).mono ?_
      rintro e w3 ⟨A5, c5, rfl, own5, hb3⟩
      have hB3 := hB2.trans (hb3.mono hz2)
      have own3 := own2'.below hb3
      have hs3 := hb3.size
      go_wp2_with fail
      refine (slicesReverse_any _ _ _ ys _ own5 (by omega) hs3).mono ?_
      rintro e wB ⟨rfl, own5', hg5⟩
      have hB4 := hB3.grown hg5 hB3.size (fun q hq => by have := (own5.ge hq).1; omega)
      have hs4 := hg5.size
      have own4 := (own3.setGrown hg5 hs3 (fun g q1 q2 e => by have := (own5.ge e.symm).1; omega)).mono (Nat.le_refl _) (Nat.le_trans hs3 hs4)
      have hce4 := (hB4.cell (p := ⟨b, off, none⟩) hb).trans hce0
      have hrv : RI wB A5 ys.reverse := own5'.rd
      have HD5 := hide own5'.cap
      have hrl : Hid (ys.reverse.length = ys.length) := hide (by simp)
      obtain ⟨zs, hzs⟩ : ∃ zs, zs = ys.reverse := ⟨_, rfl⟩
      rw [← hzs] at hrv HD5 hrl
      have HZS := hide hzs
      have hmz : Hid (∀ x, x ∈ zs → x ∈ ys) := hide (fun x hx => by rw [hzs] at hx; exact List.mem_reverse.1 hx)
      have BN : Below wB.heap.size wB wB := Below.refl _ _
      clear hzs own5' own2 own2' own3 own5 hg5 hce2 hB2 hB3
      go_wp2_with fail
      go_loopw [4, 29] (fun o i wr => ∃ (k : Nat) (A1 : Option Addr) (c1 : Nat) (bst : List Int), k ≤ 2 ∧ i = .int .i64 k ∧ o = .slice A1 1 c1 ∧ Hid (bst = leastL (renL ys) (triedB ys k)) ∧ OwnC wr w.heap.size wr.heap.size A1 c1 [bst] ∧ Below w.heap.size w wr ∧ Below wB.heap.size wB wr) (fun _ i _ => 2 - (intOf i).toNat)
      case atStart => exact ⟨0, A2, c2, _, by omega, rfl, rfl, hide rfl, own4, hB4, BN⟩
      case round =>
        clear own4 hB4 hce4 BN
        obtain ⟨kk, A1, c1, bst, hk, rfl, rfl, hbst, own, hB, hBn⟩ := hrel
        have hz := hB.size
        rcases (show kk = 0 ∨ kk = 1 ∨ kk = 2 by omega) with h0 | h0 | h0
        · have HK0 := hide h0
          have hlt2 : (kk : Int) < 2 := by omega
          have hbst : Hid (bst = leastL (renL ys) []) := hide (by have := hbst.out; rw [HK0.out] at this; exact this)
          have ix : ∀ W, (Instr.index 76 (.agg #[.slice B ys.length d, .slice A5 ys.length c5]) (.int .i64 (kk : Int))).run Try.prog W = .ok (.slice B ys.length d) W := fun W => by rw [HK0.out]; exact run_pair0 B A5 ys.length d ys.length c5 W
          clear h0
          go_wp2_with fail
          go_loopw [4, 34] (fun o i wr => ∃ (k : Nat) (A1 : Option Addr) (c1 : Nat) (bst : List Int), k ≤ ys.length ∧ i = .int .i64 k ∧ o = .slice A1 1 c1 ∧ Hid (bst = leastL (renL ys) (([] : List (List Int)) ++ triTo ys k)) ∧ OwnC wr w.heap.size wr.heap.size A1 c1 [bst] ∧ Below w.heap.size w wr ∧ Below wB.heap.size wB wr) (fun _ i _ => ys.length - (intOf i).toNat)
          case atStart => exact ⟨0, A1, c1, bst, Nat.zero_le _, rfl, rfl, hide (by rw [show triTo ys 0 = [] from rfl, List.append_nil]; exact hbst.out), own, hB, hBn⟩
          case round =>
            clear own hB hBn hbst
            obtain ⟨k, A1, c1, bst, hk, rfl, rfl, hbst, own, hB, hBn⟩ := hrel
            have hz := hB.size
            by_cases hlk : k < ys.length
            · have hbl : Hid (bst.length ≤ 1048576) := hide (by
                rw [hbst.out]
                refine Nat.le_trans (leastL_len (n := ys.length) (renL_len ys) (fun x hx => ?_)) (by omega)
                rw [List.mem_append] at hx
                rcases hx with hx | hx
                · exact (fun x hx => absurd hx (by simp)) x hx
                · have := triTo_len ys k x hx
                  have h9 := (Eq.refl ys.length)
                  omega)
              obtain ⟨l, hl⟩ : ∃ l, l = ys.drop k ++ ys.take k := ⟨_, rfl⟩
              have hll : l.length ≤ 240 := by rw [hl, List.length_append, List.length_drop, List.length_take]; have h9 := (Eq.refl ys.length); omega
              have HL := hide hl
              have hIl : Hid (∀ rs ∈ [l], ∀ x ∈ rs, -9223372036854775808 < x ∧ x ≤ 9223372036854775807) := hide (fun rs hrs x hx => by
                rw [List.mem_singleton] at hrs
                subst hrs
                rw [hl, List.mem_append] at hx
                have hx2 : x ∈ ys := by
                  rcases hx with hx | hx
                  · exact List.mem_of_mem_drop hx
                  · exact List.mem_of_mem_take hx
                exact HW.out ys (by simp) x (hx2))
              have hnl : Hid ([l].length + sumLen [l] ≤ 1048576) := hide (by rw [sumLen_one]; simp; omega)
              have HRl : Hid (renameC [l] = [renL l]) := hide (renameC_one l)
              go_wp2_with fail
              have hcall := turned_any _ d k ys _ (hr0.below hB) (by have h9 := (Eq.refl ys.length); omega) (by have h9 := (Eq.refl ys.length); omega) HD.out.1 HD.out.2
              rw [← hl] at hcall
              skip
              refine hcall.mono ?_
              rintro e w3 ⟨A3, c3, rfl, own3, hb3⟩
              have hB3 := hB.trans (hb3.mono hz)
              have hzn := hBn.size
              have hBn3 := hBn.trans (hb3.mono hzn)
              have ownb3 := (own.below hb3).mono (Nat.le_refl _) hb3.size
              have rc3 := RC.one own3 w3.heap.size rfl
              have hB3' := hB3.alloc hB3.size (.cells #[.slice A3 l.length c3] 33)
              have hBn3' := hBn3.alloc hBn3.size (.cells #[.slice A3 l.length c3] 33)
              have ownb3' := ownb3.alloc (.cells #[.slice A3 l.length c3] 33)
              clear hl
              go_wp2_with fail
              refine (renameCode_any _ _ _ [l] _ rc3 hnl.out hIl.out).mono ?_
              rw [HRl.out]
              rintro e w4 ⟨A4, c4, rfl, own4, hb4⟩
              have hB4 := hB3'.trans (hb4.mono hB3'.size)
              have hBn4 := hBn3'.trans (hb4.mono hBn3'.size)
              have ownb4 := (ownb3'.below hb4).mono (Nat.le_refl _) (Nat.le_trans (by simp) hb4.size)
              have own4' := own4.mono (base' := w.heap.size) hB3'.size (Nat.le_refl _)
              have hz4 := hB4.size
              have hzn4 := hBn4.size
              obtain ⟨x, hx⟩ : ∃ x, x = renL l := ⟨_, rfl⟩
              have HX := hide hx
              rw [← hx] at own4 own4'
              have hxl : x.length ≤ 1048576 := by rw [hx]; have := renL_len l; omega
              clear hx own4 ownb3 ownb3' rc3
              obtain ⟨g7, B7, d7, hA4, hg7, hc7, hr7⟩ := own4'.row0
              obtain ⟨g4, B4, d4, hA1, hg4, hc4, hr4⟩ := ownb4.row0
              subst hA4
              subst hA1
              have C0 : Below w4.heap.size w4 w4.drew := (Below.refl _ _).drew
              have hf7 : ∀ p : BelowOf w4, p.w.cell? ⟨g7, 0, none⟩ = some (.slice B7 x.length d7) := fun p => (p.h.cell (p := ⟨g7, 0, none⟩) hg7).trans hc7
              have hf4 : ∀ p : BelowOf w4, p.w.cell? ⟨g4, 0, none⟩ = some (.slice B4 bst.length d4) := fun p => (p.h.cell (p := ⟨g4, 0, none⟩) hg4).trans hc4
              obtain ⟨cm, hcm⟩ : ∃ cm, cm = cmpL x bst := ⟨_, rfl⟩
              have HNN : ∀ p : BelowOf w4, Calls Try.prog 88 #[.slice B7 x.length d7, .slice B4 bst.length d4] p.w (RetV p.w (.int .i64 cm)) := fun p => by
                rw [hcm]
                exact (slCompare_any _ _ _ _ x bst _ (hr7.below p.h) (hr4.below p.h) hxl hbl.out).mono (fun e w' ⟨he, hw⟩ => ⟨he, hw ▸ Below.refl _ _⟩)
              have HCM := hide hcm
              have HK2 : Hid (leastOf bst x = leastL (renL ys) (([] : List (List Int)) ++ triTo ys (k + 1))) := hide (by rw [triTo_next, ← List.append_assoc, leastL_snoc, ← hbst.out, HX.out, HL.out])
              clear hcm hc7 hc4 hr7 hr4
              go_wp2_with fail
              refine region_below (by kernel_rfl) (by kernel_rfl) C0 ?_
              repeat (go_big_quiet_step (first | exact BelowOf.ret (HNN _)))
              refine wpQuiet_nil ?_
              rintro wq ⟨⟨wq, hq⟩, rfl⟩
              have hBq := hB4.trans (hq.mono hz4)
              have hBnq := hBn4.trans (hq.mono hzn4)
              have hsq := hq.size
              by_cases hneg : cm < 0
              · have HB : Hid (x = leastL (renL ys) (([] : List (List Int)) ++ triTo ys (k + 1))) := hide (by rw [← HK2.out]; exact (leastOf_yes (by rw [← HCM.out]; exact hneg)).symm)
                have ownq := (own4'.below hq).mono (Nat.le_refl _) hsq
                clear hf7 hf4 HNN own4' ownb4
                go_wp2_with fail
                go_roundw
                case rel => exact ⟨k + 1, _, c4, x, by omega, by go_num, rfl, HB, ownq, hBq, hBnq⟩
                case measure => simp [intOf]; omega
              · have HB : Hid (bst = leastL (renL ys) (([] : List (List Int)) ++ triTo ys (k + 1))) := hide (by rw [← HK2.out]; exact (leastOf_no (by rw [← HCM.out]; exact hneg)).symm)
                have ownq := (ownb4.below hq).mono (Nat.le_refl _) hsq
                clear hf7 hf4 HNN own4' ownb4
                go_wp2_with fail
                go_roundw
                case rel => exact ⟨k + 1, _, c1, bst, by omega, by go_num, rfl, HB, ownq, hBq, hBnq⟩
                case measure => simp [intOf]; omega
            · have HB : Hid (bst = leastL (renL ys) (triedB ys (kk + 1))) := hide (by have := hbst.out; rw [show k = ys.length by omega] at this; rw [HK0.out]; exact this)
              go_wp2_with fail
              go_roundw
              case rel => exact ⟨kk + 1, A1, c1, bst, by omega, by go_num, rfl, HB, own, hB, hBn⟩
              case measure => simp [intOf]; omega
        · have HK0 := hide h0
          have hlt2 : (kk : Int) < 2 := by omega
          have hbst : Hid (bst = leastL (renL ys) (triTo ys ys.length)) := hide (by have := hbst.out; rw [HK0.out] at this; exact this)
          have ix : ∀ W, (Instr.index 76 (.agg #[.slice B ys.length d, .slice A5 ys.length c5]) (.int .i64 (kk : Int))).run Try.prog W = .ok (.slice A5 ys.length c5) W := fun W => by rw [HK0.out]; exact run_pair1 B A5 ys.length d ys.length c5 W
          clear h0
          have HTT := hide (triTo_len ys ys.length)
          obtain ⟨P1, hP1⟩ : ∃ P1, P1 = triTo ys ys.length := ⟨_, rfl⟩
          rw [← hP1] at hbst HTT
          have HP1 := hide hP1
          clear hP1
          go_wp2_with fail
          go_loopw [4, 34] (fun o i wr => ∃ (k : Nat) (A1 : Option Addr) (c1 : Nat) (bst : List Int), k ≤ ys.length ∧ i = .int .i64 k ∧ o = .slice A1 1 c1 ∧ Hid (bst = leastL (renL ys) (P1 ++ triTo zs k)) ∧ OwnC wr w.heap.size wr.heap.size A1 c1 [bst] ∧ Below w.heap.size w wr ∧ Below wB.heap.size wB wr) (fun _ i _ => ys.length - (intOf i).toNat)
          case atStart => exact ⟨0, A1, c1, bst, Nat.zero_le _, rfl, rfl, hide (by rw [show triTo zs 0 = [] from rfl, List.append_nil]; exact hbst.out), own, hB, hBn⟩
          case round =>
            clear own hB hBn hbst
            obtain ⟨k, A1, c1, bst, hk, rfl, rfl, hbst, own, hB, hBn⟩ := hrel
            have hz := hB.size
            by_cases hlk : k < ys.length
            · have hbl : Hid (bst.length ≤ 1048576) := hide (by
                rw [hbst.out]
                refine Nat.le_trans (leastL_len (n := ys.length) (renL_len ys) (fun x hx => ?_)) (by omega)
                rw [List.mem_append] at hx
                rcases hx with hx | hx
                · exact HTT.out x hx
                · have := triTo_len zs k x hx
                  have h9 := hrl.out
                  omega)
              obtain ⟨l, hl⟩ : ∃ l, l = zs.drop k ++ zs.take k := ⟨_, rfl⟩
              have hll : l.length ≤ 240 := by rw [hl, List.length_append, List.length_drop, List.length_take]; have h9 := hrl.out; omega
              have HL := hide hl
              have hIl : Hid (∀ rs ∈ [l], ∀ x ∈ rs, -9223372036854775808 < x ∧ x ≤ 9223372036854775807) := hide (fun rs hrs x hx => by
                rw [List.mem_singleton] at hrs
                subst hrs
                rw [hl, List.mem_append] at hx
                have hx2 : x ∈ zs := by
                  rcases hx with hx | hx
                  · exact List.mem_of_mem_drop hx
                  · exact List.mem_of_mem_take hx
                exact HW.out ys (by simp) x ((hmz.out x hx2)))
              have hnl : Hid ([l].length + sumLen [l] ≤ 1048576) := hide (by rw [sumLen_one]; simp; omega)
              have HRl : Hid (renameC [l] = [renL l]) := hide (renameC_one l)
              go_wp2_with fail
              have hcall := turned_any _ c5 k zs _ (hrv.below hBn) (by have h9 := hrl.out; omega) (by have h9 := hrl.out; omega) (by have := HD5.out.1; have h9 := hrl.out; omega) (by have := HD5.out.2; unfold maxLen at this; exact this)
              rw [← hl] at hcall
              rw [hrl.out] at hcall
              refine hcall.mono ?_
              rintro e w3 ⟨A3, c3, rfl, own3, hb3⟩
              have hB3 := hB.trans (hb3.mono hz)
              have hzn := hBn.size
              have hBn3 := hBn.trans (hb3.mono hzn)
              have ownb3 := (own.below hb3).mono (Nat.le_refl _) hb3.size
              have rc3 := RC.one own3 w3.heap.size rfl
              have hB3' := hB3.alloc hB3.size (.cells #[.slice A3 l.length c3] 33)
              have hBn3' := hBn3.alloc hBn3.size (.cells #[.slice A3 l.length c3] 33)
              have ownb3' := ownb3.alloc (.cells #[.slice A3 l.length c3] 33)
              clear hl
              go_wp2_with fail
              refine (renameCode_any _ _ _ [l] _ rc3 hnl.out hIl.out).mono ?_
              rw [HRl.out]
              rintro e w4 ⟨A4, c4, rfl, own4, hb4⟩
              have hB4 := hB3'.trans (hb4.mono hB3'.size)
              have hBn4 := hBn3'.trans (hb4.mono hBn3'.size)
              have ownb4 := (ownb3'.below hb4).mono (Nat.le_refl _) (Nat.le_trans (by simp) hb4.size)
              have own4' := own4.mono (base' := w.heap.size) hB3'.size (Nat.le_refl _)
              have hz4 := hB4.size
              have hzn4 := hBn4.size
              obtain ⟨x, hx⟩ : ∃ x, x = renL l := ⟨_, rfl⟩
              have HX := hide hx
              rw [← hx] at own4 own4'
              have hxl : x.length ≤ 1048576 := by rw [hx]; have := renL_len l; omega
              clear hx own4 ownb3 ownb3' rc3
              obtain ⟨g7, B7, d7, hA4, hg7, hc7, hr7⟩ := own4'.row0
              obtain ⟨g4, B4, d4, hA1, hg4, hc4, hr4⟩ := ownb4.row0
              subst hA4
              subst hA1
              have C0 : Below w4.heap.size w4 w4.drew := (Below.refl _ _).drew
              have hf7 : ∀ p : BelowOf w4, p.w.cell? ⟨g7, 0, none⟩ = some (.slice B7 x.length d7) := fun p => (p.h.cell (p := ⟨g7, 0, none⟩) hg7).trans hc7
              have hf4 : ∀ p : BelowOf w4, p.w.cell? ⟨g4, 0, none⟩ = some (.slice B4 bst.length d4) := fun p => (p.h.cell (p := ⟨g4, 0, none⟩) hg4).trans hc4
              obtain ⟨cm, hcm⟩ : ∃ cm, cm = cmpL x bst := ⟨_, rfl⟩
              have HNN : ∀ p : BelowOf w4, Calls Try.prog 88 #[.slice B7 x.length d7, .slice B4 bst.length d4] p.w (RetV p.w (.int .i64 cm)) := fun p => by
                rw [hcm]
                exact (slCompare_any _ _ _ _ x bst _ (hr7.below p.h) (hr4.below p.h) hxl hbl.out).mono (fun e w' ⟨he, hw⟩ => ⟨he, hw ▸ Below.refl _ _⟩)
              have HCM := hide hcm
              have HK2 : Hid (leastOf bst x = leastL (renL ys) (P1 ++ triTo zs (k + 1))) := hide (by rw [triTo_next, ← List.append_assoc, leastL_snoc, ← hbst.out, HX.out, HL.out])
              clear hcm hc7 hc4 hr7 hr4
              go_wp2_with fail
              refine region_below (by kernel_rfl) (by kernel_rfl) C0 ?_
              repeat (go_big_quiet_step (first | exact BelowOf.ret (HNN _)))
              refine wpQuiet_nil ?_
              rintro wq ⟨⟨wq, hq⟩, rfl⟩
              have hBq := hB4.trans (hq.mono hz4)
              have hBnq := hBn4.trans (hq.mono hzn4)
              have hsq := hq.size
              by_cases hneg : cm < 0
              · have HB : Hid (x = leastL (renL ys) (P1 ++ triTo zs (k + 1))) := hide (by rw [← HK2.out]; exact (leastOf_yes (by rw [← HCM.out]; exact hneg)).symm)
                have ownq := (own4'.below hq).mono (Nat.le_refl _) hsq
                clear hf7 hf4 HNN own4' ownb4
                go_wp2_with fail
                go_roundw
                case rel => exact ⟨k + 1, _, c4, x, by omega, by go_num, rfl, HB, ownq, hBq, hBnq⟩
                case measure => simp [intOf]; omega
              · have HB : Hid (bst = leastL (renL ys) (P1 ++ triTo zs (k + 1))) := hide (by rw [← HK2.out]; exact (leastOf_no (by rw [← HCM.out]; exact hneg)).symm)
                have ownq := (ownb4.below hq).mono (Nat.le_refl _) hsq
                clear hf7 hf4 HNN own4' ownb4
                go_wp2_with fail
                go_roundw
                case rel => exact ⟨k + 1, _, c1, bst, by omega, by go_num, rfl, HB, ownq, hBq, hBnq⟩
                case measure => simp [intOf]; omega
            · have HB : Hid (bst = leastL (renL ys) (triedB ys (kk + 1))) := hide (by have := hbst.out; rw [show k = ys.length by omega, ← hrl.out, HP1.out, HZS.out] at this; rw [HK0.out]; exact this)
              go_wp2_with fail
              go_roundw
              case rel => exact ⟨kk + 1, A1, c1, bst, by omega, by go_num, rfl, HB, own, hB, hBn⟩
              case measure => simp [intOf]; omega
        · have HB : Hid (bst = leastR ys) := hide (by rw [hbst.out, h0]; exact triedB_all ys)
          have hlt2 : ¬ (kk : Int) < 2 := by omega
          clear h0
          go_wp2_with fail
          refine bodyPost_ret (v := .tuple #[.slice A1 1 c1, .int .i64 0]) (by simp [results, Try.results30, go_sem]) rfl ?_
          rw [HV.out, ← HB.out]
          exact ⟨A1, c1, rfl, own, hB⟩
    · have HV : Hid (leastCR code = ([], 6)) := hide (by unfold leastCR; rw [if_pos hv, if_neg h1])
      have hne : ((code.length : Int) != 1) = true := by rw [bne_iff_ne]; omega
      clear h1
      go_enter Try.func30, Try.ntmps30
      go_wp2_with fail
      refine (validCode_any _ _ T code _ hc hn).mono ?_
      rw [hv]
      rintro e w1 ⟨rfl, hb1⟩
      clear hv
      go_wp2_with fail
      refine bodyPost_ret (v := .tuple #[.slice none 0 0, .int .i64 6]) (by simp [results, Try.results30, go_sem]) rfl ?_
      rw [HV.out]
      exact ⟨none, 0, rfl, OwnC.nil _ _ _, hb1⟩
end Go.Proofs.Ytpgpchklmdhldaa
