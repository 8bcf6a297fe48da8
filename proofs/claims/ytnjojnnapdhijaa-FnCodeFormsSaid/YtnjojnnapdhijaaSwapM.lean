/-
  Contract: LeastCode, of the program. Conditions: none beyond the lengths.
  Plain theory of the stable sort: the order of rows, what a part of a list is rearranged to, sinking, rotating, merging. Conditions: none; nothing of the program is named here.
  Words for two rows of a code that are exchanged, and the contract of the order of rows. Conditions: rows of at most 1048576 numbers.
-/
import Derived.Test.YtnjojnnapdhijaaLeastSM
import Derived.Test.YtnjojnnapdhijaaMoveMathM
import Derived.Test.YtnjojnnapdhijaaCmpM
import Derived.Test.YtnjojnnapdhijaaCodeMem
namespace Go.Proofs.Ytnjojnnapdhijaa
open Go.RowKit
set_option linter.unusedVariables false

theorem triTo_len (xs : List Int) (m : Nat) : ∀ l ∈ triTo xs m, l.length ≤ xs.length := fun l hl => by
  unfold triTo at hl
  obtain ⟨a, ha, rfl⟩ := List.mem_map.1 hl
  have h1 := renL_len (xs.drop a ++ xs.take a)
  rw [List.length_append, List.length_drop, List.length_take] at h1
  omega
theorem run_pair0 (A B : Option Addr) (n c m d : Nat) (W : World) : (Instr.index 84 (.agg #[.slice A n c, .slice B m d]) (.int .i64 0)).run Try.prog W = .ok (.slice A n c) W := by
  have up := Try.underlying84
  have ha : (isAgg 34).run Try.prog W = .ok false W := by kernel_rfl
  have hs : (Go.sizeOf 34).run Try.prog W = .ok 1 W := by kernel_rfl
  simp [Instr.index, run_underlying Try.underlying84, go_sem, Result.andThen, ha, hs]
theorem run_pair1 (A B : Option Addr) (n c m d : Nat) (W : World) : (Instr.index 84 (.agg #[.slice A n c, .slice B m d]) (.int .i64 1)).run Try.prog W = .ok (.slice B m d) W := by
  have up := Try.underlying84
  have ha : (isAgg 34).run Try.prog W = .ok false W := by kernel_rfl
  have hs : (Go.sizeOf 34).run Try.prog W = .ok 1 W := by kernel_rfl
  simp [Instr.index, run_underlying Try.underlying84, go_sem, Result.andThen, ha, hs]
/-- What has been tried before curve i. -/
def triedB (xs : List Int) (i : Nat) : List (List Int) := if i = 0 then [] else if i = 1 then triTo xs xs.length else triTo xs xs.length ++ triTo xs.reverse xs.reverse.length
theorem triedB_all (xs : List Int) : leastL (renL xs) (triedB xs 2) = leastR xs := by
  unfold triedB
  rw [if_neg (by decide), if_neg (by decide)]
  exact tri_same
set_option maxRecDepth 100000 in
set_option maxHeartbeats 16000000 in
theorem implLeast_any (A : Option Addr) (c T : Nat) (code : List (List Int)) (w : World) (hc : RC w T A code) (hn : code.length + sumLen code ≤ 1048576) :
    Calls Try.prog 24 #[.slice A code.length c] w (RetCC w (leastCR code).1 (leastCR code).2) := by
  cases hv : validC code
  · have HV : Hid (leastCR code = ([], 1)) := hide (by unfold leastCR; rw [if_neg (by rw [hv]; simp)])
    go_enter Try.func24, Try.ntmps24
    go_wp2_with fail
    refine (validCode_any _ _ T code _ hc hn).mono ?_
    rw [hv]
    rintro e w1 ⟨rfl, hb1⟩
    clear hv
    go_wp2_with fail
    refine bodyPost_ret (v := .tuple #[.slice none 0 0, .int .i64 1]) (by simp [results, Try.results24, go_sem]) rfl ?_
    rw [HV.out]
    exact ⟨none, 0, rfl, OwnC.nil _ _ _, hb1⟩
  · by_cases h1 : code.length = 1
    · obtain ⟨xs, rfl⟩ : ∃ xs, code = [xs] := List.length_eq_one_iff.1 h1
      have HV : Hid (leastCR [xs] = ([leastR xs], 0)) := hide (by unfold leastCR; rw [if_pos hv, if_pos h1]; rfl)
      obtain ⟨hs1, hs2, hs3⟩ := valid_sum hv
      have HW := hide (valid_wide hv)
      have HR : Hid (renameC [xs] = [renL xs]) := hide (renameC_one xs)
      obtain ⟨b, off, B, d, ys, rfl, hb, hy, hce0, hd1, hd2, hr0⟩ := hc.row (k := 0) (by simp)
      obtain rfl : ys = xs := by simpa using hy.symm
      rw [Nat.add_zero] at hce0
      rw [sumLen_one] at hn hs2
      have hyl : ys.length ≤ 240 := hs2
      have hn2 : Hid ([ys].length + sumLen [ys] ≤ 1048576) := hide (by rw [sumLen_one]; simp; omega)
      have HD := hide (And.intro hd1 hd2)
      clear hy hd1 hd2 hs1 hs2 hs3
      go_enter Try.func24, Try.ntmps24
      go_wp2_with fail
      refine (validCode_any _ _ T [ys] _ hc hn2.out).mono ?_
      rw [hv]
      rintro e w1 ⟨rfl, hb1⟩
      clear hv
      go_wp2_with fail
      refine (renameCode_any _ _ T [ys] _ (hc.below hb1) hn2.out HW.out).mono ?_
      rw [HR.out]
      rintro e w2 ⟨A2, c2, rfl, own2, hb2⟩
      have hB2 := hb1.trans (hb2.mono hb1.size)
      have own2' := own2.mono hb1.size (Nat.le_refl _)
      have hz2 := hB2.size
      have hce2 := (hB2.cell (p := ⟨b, off, none⟩) hb).trans hce0
      go_wp2_with fail
      refine (slicesClone_any _ _ ys _ (hr0.below hB2) (by omega)).mono ?_
      rintro e w3 ⟨A5, c5, rfl, own5, hb3⟩
      have hB3 := hB2.trans (hb3.mono hz2)
      have own3 := own2'.below hb3
      have hs3 := hb3.size
      go_wp2_with fail
      refine (slicesReverse_any _ _ _ ys _ own5 (by omega) hs3).mono ?_
      rintro e wB ⟨rfl, own5', hg5⟩
      have hB4 := hB3.grown hg5 hB3.size (fun q hq => by have := (own5.ge hq).1; omega)
      have hs4 := hg5.size
      have own4 := (own3.setGrown hg5 hs3 (fun g q1 q2 e => by have := (own5.ge e.symm).1; omega)).mono (Nat.le_refl _) (Nat.le_trans hs3 hs4)
      have hce4 := (hB4.cell (p := ⟨b, off, none⟩) hb).trans hce0
      have hrv : RI wB A5 ys.reverse := own5'.rd
      have HD5 := hide own5'.cap
      have hrl : Hid (ys.reverse.length = ys.length) := hide (by simp)
      obtain ⟨zs, hzs⟩ : ∃ zs, zs = ys.reverse := ⟨_, rfl⟩
      rw [← hzs] at hrv HD5 hrl
      have HZS := hide hzs
      have hmz : Hid (∀ x, x ∈ zs → x ∈ ys) := hide (fun x hx => by rw [hzs] at hx; exact List.mem_reverse.1 hx)
      have BN : Below wB.heap.size wB wB := Below.refl _ _
      clear hzs own5' own2 own2' own3 own5 hg5 hce2 hB2 hB3
      go_wp2_with fail
      go_loopw [4, 29] (fun o i wr => ∃ (k : Nat) (A1 : Option Addr) (c1 : Nat) (bst : List Int), k ≤ 2 ∧ i = .int .i64 k ∧ o = .slice A1 1 c1 ∧ Hid (bst = leastL (renL ys) (triedB ys k)) ∧ OwnC wr w.heap.size wr.heap.size A1 c1 [bst] ∧ Below w.heap.size w wr ∧ Below wB.heap.size wB wr) (fun _ i _ => 2 - (intOf i).toNat)
      case atStart => exact ⟨0, A2, c2, _, by omega, rfl, rfl, hide rfl, own4, hB4, BN⟩
      case round =>
        clear own4 hB4 hce4 BN
        obtain ⟨kk, A1, c1, bst, hk, rfl, rfl, hbst, own, hB, hBn⟩ := hrel
        have hz := hB.size
        rcases (show kk = 0 ∨ kk = 1 ∨ kk = 2 by omega) with h0 | h0 | h0
        · have HK0 := hide h0
          have hlt2 : (kk : Int) < 2 := by omega
          have hbst : Hid (bst = leastL (renL ys) []) := hide (by have := hbst.out; rw [HK0.out] at this; exact this)
          have ix : ∀ W, (Instr.index 84 (.agg #[.slice B ys.length d, .slice A5 ys.length c5]) (.int .i64 (kk : Int))).run Try.prog W = .ok (.slice B ys.length d) W := fun W => by rw [HK0.out]; exact run_pair0 B A5 ys.length d ys.length c5 W
          clear h0
          go_wp2_with fail
          go_loopw [4, 34] (fun o i wr => ∃ (k : Nat) (A1 : Option Addr) (c1 : Nat) (bst : List Int), k ≤ ys.length ∧ i = .int .i64 k ∧ o = .slice A1 1 c1 ∧ Hid (bst = leastL (renL ys) (([] : List (List Int)) ++ triTo ys k)) ∧ OwnC wr w.heap.size wr.heap.size A1 c1 [bst] ∧ Below w.heap.size w wr ∧ Below wB.heap.size wB wr) (fun _ i _ => ys.length - (intOf i).toNat)
          case atStart => exact ⟨0, A1, c1, bst, Nat.zero_le _, rfl, rfl, hide (by rw [show triTo ys 0 = [] from rfl, List.append_nil]; exact hbst.out), own, hB, hBn⟩
          case round =>
            clear own hB hBn hbst
            obtain ⟨k, A1, c1, bst, hk, rfl, rfl, hbst, own, hB, hBn⟩ := hrel
            have hz := hB.size
            by_cases hlk : k < ys.length
            · have hbl : Hid (bst.length ≤ 1048576) := hide (by
                rw [hbst.out]
                refine Nat.le_trans (leastL_len (n := ys.length) (renL_len ys) (fun x hx => ?_)) (by omega)
                rw [List.mem_append] at hx
                rcases hx with hx | hx
                · exact (fun x hx => absurd hx (by simp)) x hx
                · have := triTo_len ys k x hx
                  have h9 := (Eq.refl ys.length)
                  omega)
              obtain ⟨l, hl⟩ : ∃ l, l = ys.drop k ++ ys.take k := ⟨_, rfl⟩
              have hll : l.length ≤ 240 := by rw [hl, List.length_append, List.length_drop, List.length_take]; have h9 := (Eq.refl ys.length); omega
              have HL := hide hl
              have hIl : Hid (∀ rs ∈ [l], ∀ x ∈ rs, -9223372036854775808 < x ∧ x ≤ 9223372036854775807) := hide (fun rs hrs x hx => by
                rw [List.mem_singleton] at hrs
                subst hrs
                rw [hl, List.mem_append] at hx
                have hx2 : x ∈ ys := by
                  rcases hx with hx | hx
                  · exact List.mem_of_mem_drop hx
                  · exact List.mem_of_mem_take hx
                exact HW.out ys (by simp) x (hx2))
              have hnl : Hid ([l].length + sumLen [l] ≤ 1048576) := hide (by rw [sumLen_one]; simp; omega)
              have HRl : Hid (renameC [l] = [renL l]) := hide (renameC_one l)
              go_wp2_with fail
              have hcall := turned_any _ d k ys _ (hr0.below hB) (by have h9 := (Eq.refl ys.length); omega) (by have h9 := (Eq.refl ys.length); omega) HD.out.1 HD.out.2
              rw [← hl] at hcall
              skip
              refine hcall.mono ?_
              rintro e w3 ⟨A3, c3, rfl, own3, hb3⟩
              have hB3 := hB.trans (hb3.mono hz)
              have hzn := hBn.size
              have hBn3 := hBn.trans (hb3.mono hzn)
              have ownb3 := (own.below hb3).mono (Nat.le_refl _) hb3.size
              have rc3 := RC.one own3 w3.heap.size rfl
              have hB3' := hB3.alloc hB3.size (.cells #[.slice A3 l.length c3] 34)
              have hBn3' := hBn3.alloc hBn3.size (.cells #[.slice A3 l.length c3] 34)
              have ownb3' := ownb3.alloc (.cells #[.slice A3 l.length c3] 34)
              clear hl
              go_wp2_with fail
              refine (renameCode_any _ _ _ [l] _ rc3 hnl.out hIl.out).mono ?_
              rw [HRl.out]
              rintro e w4 ⟨A4, c4, rfl, own4, hb4⟩
              have hB4 := hB3'.trans (hb4.mono hB3'.size)
              have hBn4 := hBn3'.trans (hb4.mono hBn3'.size)
              have ownb4 := (ownb3'.below hb4).mono (Nat.le_refl _) (Nat.le_trans (by simp) hb4.size)
              have own4' := own4.mono (base' := w.heap.size) hB3'.size (Nat.le_refl _)
              have hz4 := hB4.size
              have hzn4 := hBn4.size
              obtain ⟨x, hx⟩ : ∃ x, x = renL l := ⟨_, rfl⟩
              have HX := hide hx
              rw [← hx] at own4 own4'
              have hxl : x.length ≤ 1048576 := by rw [hx]; have := renL_len l; omega
              clear hx own4 ownb3 ownb3' rc3
              obtain ⟨g7, B7, d7, hA4, hg7, hc7, hr7⟩ := own4'.row0
              obtain ⟨g4, B4, d4, hA1, hg4, hc4, hr4⟩ := ownb4.row0
              subst hA4
              subst hA1
              have C0 : Below w4.heap.size w4 w4.drew := (Below.refl _ _).drew
              have hf7 : ∀ p : BelowOf w4, p.w.cell? ⟨g7, 0, none⟩ = some (.slice B7 x.length d7) := fun p => (p.h.cell (p := ⟨g7, 0, none⟩) hg7).trans hc7
              have hf4 : ∀ p : BelowOf w4, p.w.cell? ⟨g4, 0, none⟩ = some (.slice B4 bst.length d4) := fun p => (p.h.cell (p := ⟨g4, 0, none⟩) hg4).trans hc4
              obtain ⟨cm, hcm⟩ : ∃ cm, cm = cmpL x bst := ⟨_, rfl⟩
              have HNN : ∀ p : BelowOf w4, Calls Try.prog 77 #[.slice B7 x.length d7, .slice B4 bst.length d4] p.w (RetV p.w (.int .i64 cm)) := fun p => by
                rw [hcm]
                exact (slCompare_any _ _ _ _ x bst _ (hr7.below p.h) (hr4.below p.h) hxl hbl.out).mono (fun e w' ⟨he, hw⟩ => ⟨he, hw ▸ Below.refl _ _⟩)
              have HCM := hide hcm
              have HK2 : Hid (leastOf bst x = leastL (renL ys) (([] : List (List Int)) ++ triTo ys (k + 1))) := hide (by rw [triTo_next, ← List.append_assoc, leastL_snoc, ← hbst.out, HX.out, HL.out])
              clear hcm hc7 hc4 hr7 hr4
              go_wp2_with fail
              refine region_below (by kernel_rfl) (by kernel_rfl) C0 ?_
              repeat (go_big_quiet_step (first | exact BelowOf.ret (HNN _)))
              refine wpQuiet_nil ?_
              rintro wq ⟨⟨wq, hq⟩, rfl⟩
              have hBq := hB4.trans (hq.mono hz4)
              have hBnq := hBn4.trans (hq.mono hzn4)
              have hsq := hq.size
              by_cases hneg : cm < 0
              · have HB : Hid (x = leastL (renL ys) (([] : List (List Int)) ++ triTo ys (k + 1))) := hide (by rw [← HK2.out]; exact (leastOf_yes (by rw [← HCM.out]; exact hneg)).symm)
                have ownq := (own4'.below hq).mono (Nat.le_refl _) hsq
                clear hf7 hf4 HNN own4' ownb4
                go_wp2_with fail
                go_roundw
                case rel => exact ⟨k + 1, _, c4, x, by omega, by go_num, rfl, HB, ownq, hBq, hBnq⟩
                case measure => simp [intOf]; omega
              · have HB : Hid (bst = leastL (renL ys) (([] : List (List Int)) ++ triTo ys (k + 1))) := hide (by rw [← HK2.out]; exact (leastOf_no (by rw [← HCM.out]; exact hneg)).symm)
                have ownq := (ownb4.below hq).mono (Nat.le_refl _) hsq
                clear hf7 hf4 HNN own4' ownb4
                go_wp2_with fail
                go_roundw
                case rel => exact ⟨k + 1, _, c1, bst, by omega, by go_num, rfl, HB, ownq, hBq, hBnq⟩
                case measure => simp [intOf]; omega
            · have HB : Hid (bst = leastL (renL ys) (triedB ys (kk + 1))) := hide (by have := hbst.out; rw [show k = ys.length by omega] at this; rw [HK0.out]; exact this)
              go_wp2_with fail
              go_roundw
              case rel => exact ⟨kk + 1, A1, c1, bst, by omega, by go_num, rfl, HB, own, hB, hBn⟩
              case measure => simp [intOf]; omega
        · have HK0 := hide h0
          have hlt2 : (kk : Int) < 2 := by omega
          have hbst : Hid (bst = leastL (renL ys) (triTo ys ys.length)) := hide (by have := hbst.out; rw [HK0.out] at this; exact this)
          have ix : ∀ W, (Instr.index 84 (.agg #[.slice B ys.length d, .slice A5 ys.length c5]) (.int .i64 (kk : Int))).run Try.prog W = .ok (.slice A5 ys.length c5) W := fun W => by rw [HK0.out]; exact run_pair1 B A5 ys.length d ys.length c5 W
          clear h0
          have HTT := hide (triTo_len ys ys.length)
          obtain ⟨P1, hP1⟩ : ∃ P1, P1 = triTo ys ys.length := ⟨_, rfl⟩
          rw [← hP1] at hbst HTT
          have HP1 := hide hP1
          clear hP1
          go_wp2_with fail
          go_loopw [4, 34] (fun o i wr => ∃ (k : Nat) (A1 : Option Addr) (c1 : Nat) (bst : List Int), k ≤ ys.length ∧ i = .int .i64 k ∧ o = .slice A1 1 c1 ∧ Hid (bst = leastL (renL ys) (P1 ++ triTo zs k)) ∧ OwnC wr w.heap.size wr.heap.size A1 c1 [bst] ∧ Below w.heap.size w wr ∧ Below wB.heap.size wB wr) (fun _ i _ => ys.length - (intOf i).toNat)
          case atStart => exact ⟨0, A1, c1, bst, Nat.zero_le _, rfl, rfl, hide (by rw [show triTo zs 0 = [] from rfl, List.append_nil]; exact hbst.out), own, hB, hBn⟩
          case round =>
            clear own hB hBn hbst
            obtain ⟨k, A1, c1, bst, hk, rfl, rfl, hbst, own, hB, hBn⟩ := hrel
            have hz := hB.size
            by_cases hlk : k < ys.length
            · have hbl : Hid (bst.length ≤ 1048576) := hide (by
                rw [hbst.out]
                refine Nat.le_trans (leastL_len (n := ys.length) (renL_len ys) (fun x hx => ?_)) (by omega)
                rw [List.mem_append] at hx
                rcases hx with hx | hx
                · exact HTT.out x hx
                · have := triTo_len zs k x hx
                  have h9 := hrl.out
                  omega)
              obtain ⟨l, hl⟩ : ∃ l, l = zs.drop k ++ zs.take k := ⟨_, rfl⟩
              have hll : l.length ≤ 240 := by rw [hl, List.length_append, List.length_drop, List.length_take]; have h9 := hrl.out; omega
              have HL := hide hl
              have hIl : Hid (∀ rs ∈ [l], ∀ x ∈ rs, -9223372036854775808 < x ∧ x ≤ 9223372036854775807) := hide (fun rs hrs x hx => by
                rw [List.mem_singleton] at hrs
                subst hrs
                rw [hl, List.mem_append] at hx
                have hx2 : x ∈ zs := by
                  rcases hx with hx | hx
                  · exact List.mem_of_mem_drop hx
                  · exact List.mem_of_mem_take hx
                exact HW.out ys (by simp) x ((hmz.out x hx2)))
              have hnl : Hid ([l].length + sumLen [l] ≤ 1048576) := hide (by rw [sumLen_one]; simp; omega)
              have HRl : Hid (renameC [l] = [renL l]) := hide (renameC_one l)
              go_wp2_with fail
              have hcall := turned_any _ c5 k zs _ (hrv.below hBn) (by have h9 := hrl.out; omega) (by have h9 := hrl.out; omega) (by have := HD5.out.1; have h9 := hrl.out; omega) (by have := HD5.out.2; unfold maxLen at this; exact this)
              rw [← hl] at hcall
              rw [hrl.out] at hcall
              refine hcall.mono ?_
              rintro e w3 ⟨A3, c3, rfl, own3, hb3⟩
              have hB3 := hB.trans (hb3.mono hz)
              have hzn := hBn.size
              have hBn3 := hBn.trans (hb3.mono hzn)
              have ownb3 := (own.below hb3).mono (Nat.le_refl _) hb3.size
              have rc3 := RC.one own3 w3.heap.size rfl
              have hB3' := hB3.alloc hB3.size (.cells #[.slice A3 l.length c3] 34)
              have hBn3' := hBn3.alloc hBn3.size (.cells #[.slice A3 l.length c3] 34)
              have ownb3' := ownb3.alloc (.cells #[.slice A3 l.length c3] 34)
              clear hl
              go_wp2_with fail
              refine (renameCode_any _ _ _ [l] _ rc3 hnl.out hIl.out).mono ?_
              rw [HRl.out]
              rintro e w4 ⟨A4, c4, rfl, own4, hb4⟩
              have hB4 := hB3'.trans (hb4.mono hB3'.size)
              have hBn4 := hBn3'.trans (hb4.mono hBn3'.size)
              have ownb4 := (ownb3'.below hb4).mono (Nat.le_refl _) (Nat.le_trans (by simp) hb4.size)
              have own4' := own4.mono (base' := w.heap.size) hB3'.size (Nat.le_refl _)
              have hz4 := hB4.size
              have hzn4 := hBn4.size
              obtain ⟨x, hx⟩ : ∃ x, x = renL l := ⟨_, rfl⟩
              have HX := hide hx
              rw [← hx] at own4 own4'
              have hxl : x.length ≤ 1048576 := by rw [hx]; have := renL_len l; omega
              clear hx own4 ownb3 ownb3' rc3
              obtain ⟨g7, B7, d7, hA4, hg7, hc7, hr7⟩ := own4'.row0
              obtain ⟨g4, B4, d4, hA1, hg4, hc4, hr4⟩ := ownb4.row0
              subst hA4
              subst hA1
              have C0 : Below w4.heap.size w4 w4.drew := (Below.refl _ _).drew
              have hf7 : ∀ p : BelowOf w4, p.w.cell? ⟨g7, 0, none⟩ = some (.slice B7 x.length d7) := fun p => (p.h.cell (p := ⟨g7, 0, none⟩) hg7).trans hc7
              have hf4 : ∀ p : BelowOf w4, p.w.cell? ⟨g4, 0, none⟩ = some (.slice B4 bst.length d4) := fun p => (p.h.cell (p := ⟨g4, 0, none⟩) hg4).trans hc4
              obtain ⟨cm, hcm⟩ : ∃ cm, cm = cmpL x bst := ⟨_, rfl⟩
              have HNN : ∀ p : BelowOf w4, Calls Try.prog 77 #[.slice B7 x.length d7, .slice B4 bst.length d4] p.w (RetV p.w (.int .i64 cm)) := fun p => by
                rw [hcm]
                exact (slCompare_any _ _ _ _ x bst _ (hr7.below p.h) (hr4.below p.h) hxl hbl.out).mono (fun e w' ⟨he, hw⟩ => ⟨he, hw ▸ Below.refl _ _⟩)
              have HCM := hide hcm
              have HK2 : Hid (leastOf bst x = leastL (renL ys) (P1 ++ triTo zs (k + 1))) := hide (by rw [triTo_next, ← List.append_assoc, leastL_snoc, ← hbst.out, HX.out, HL.out])
              clear hcm hc7 hc4 hr7 hr4
              go_wp2_with fail
              refine region_below (by kernel_rfl) (by kernel_rfl) C0 ?_
              repeat (go_big_quiet_step (first | exact BelowOf.ret (HNN _)))
              refine wpQuiet_nil ?_
              rintro wq ⟨⟨wq, hq⟩, rfl⟩
              have hBq := hB4.trans (hq.mono hz4)
              have hBnq := hBn4.trans (hq.mono hzn4)
              have hsq := hq.size
              by_cases hneg : cm < 0
              · have HB : Hid (x = leastL (renL ys) (P1 ++ triTo zs (k + 1))) := hide (by rw [← HK2.out]; exact (leastOf_yes (by rw [← HCM.out]; exact hneg)).symm)
                have ownq := (own4'.below hq).mono (Nat.le_refl _) hsq
                clear hf7 hf4 HNN own4' ownb4
                go_wp2_with fail
                go_roundw
                case rel => exact ⟨k + 1, _, c4, x, by omega, by go_num, rfl, HB, ownq, hBq, hBnq⟩
                case measure => simp [intOf]; omega
              · have HB : Hid (bst = leastL (renL ys) (P1 ++ triTo zs (k + 1))) := hide (by rw [← HK2.out]; exact (leastOf_no (by rw [← HCM.out]; exact hneg)).symm)
                have ownq := (ownb4.below hq).mono (Nat.le_refl _) hsq
                clear hf7 hf4 HNN own4' ownb4
                go_wp2_with fail
                go_roundw
                case rel => exact ⟨k + 1, _, c1, bst, by omega, by go_num, rfl, HB, ownq, hBq, hBnq⟩
                case measure => simp [intOf]; omega
            · have HB : Hid (bst = leastL (renL ys) (triedB ys (kk + 1))) := hide (by have := hbst.out; rw [show k = ys.length by omega, ← hrl.out, HP1.out, HZS.out] at this; rw [HK0.out]; exact this)
              go_wp2_with fail
              go_roundw
              case rel => exact ⟨kk + 1, A1, c1, bst, by omega, by go_num, rfl, HB, own, hB, hBn⟩
              case measure => simp [intOf]; omega
        · have HB : Hid (bst = leastR ys) := hide (by rw [hbst.out, h0]; exact triedB_all ys)
          have hlt2 : ¬ (kk : Int) < 2 := by omega
          clear h0
          go_wp2_with fail
          refine bodyPost_ret (v := .tuple #[.slice A1 1 c1, .int .i64 0]) (by simp [results, Try.results24, go_sem]) rfl ?_
          rw [HV.out, ← HB.out]
          exact ⟨A1, c1, rfl, own, hB⟩
    · have HV : Hid (leastCR code = ([], 6)) := hide (by unfold leastCR; rw [if_pos hv, if_neg h1])
      have hne : ((code.length : Int) != 1) = true := by rw [bne_iff_ne]; omega
      clear h1
      go_enter Try.func24, Try.ntmps24
      go_wp2_with fail
      refine (validCode_any _ _ T code _ hc hn).mono ?_
      rw [hv]
      rintro e w1 ⟨rfl, hb1⟩
      clear hv
      go_wp2_with fail
      refine bodyPost_ret (v := .tuple #[.slice none 0 0, .int .i64 6]) (by simp [results, Try.results24, go_sem]) rfl ?_
      rw [HV.out]
      exact ⟨none, 0, rfl, OwnC.nil _ _ _, hb1⟩
end Go.Proofs.Ytnjojnnapdhijaa

namespace Go.Proofs.Ytnjojnnapdhijaa
open Go.RowKit
set_option linter.unusedVariables false

abbrev Rw := List Int
/-- the order of rows: the shorter first, then number by number -/
def cmpR (a b : Rw) : Int := if a.length = b.length then cmpL a b else (a.length : Int) - (b.length : Int)
theorem cmpR_self (a : Rw) : cmpR a a = 0 := by unfold cmpR; rw [if_pos rfl, cmpL_self]
theorem cmpR_neg (a b : Rw) : cmpR b a = -cmpR a b := by
  unfold cmpR
  by_cases h : a.length = b.length
  · rw [if_pos h, if_pos h.symm, cmpL_neg]
  · rw [if_neg h, if_neg (fun e => h e.symm)]
    omega
theorem cmpR_eq {a b : Rw} (h : cmpR a b = 0) : a = b := by
  unfold cmpR at h
  split at h
  · exact cmpL_eq _ _ h
  · omega
theorem cmpR_trans {a b c : Rw} (h1 : cmpR a b ≤ 0) (h2 : cmpR b c ≤ 0) : cmpR a c ≤ 0 := by
  unfold cmpR at *
  split at h1
  · rename_i e1
    split at h2
    · rename_i e2
      rw [if_pos (e1.trans e2)]
      exact cmpL_trans _ _ _ h1 h2
    · rename_i e2
      rw [if_neg (by omega)]
      omega
  · rename_i e1
    split at h2
    · rename_i e2
      rw [if_neg (by omega)]
      omega
    · rename_i e2
      rw [if_neg (by omega)]
      omega
theorem cmpR_b {a b : Rw} (h1 : a.length ≤ 1048576) (h2 : b.length ≤ 1048576) : -1048576 ≤ cmpR a b ∧ cmpR a b ≤ 1048576 := by
  unfold cmpR
  split
  · have := cmpL_three a b
    omega
  · omega
/-- rearranged between a and b -/
def Re (a b : Nat) (s t : List Rw) : Prop := t.length = s.length ∧ (∀ k, k < a ∨ b ≤ k → t[k]? = s[k]?) ∧ t.Perm s
theorem Re.refl (a b : Nat) (s : List Rw) : Re a b s s := ⟨rfl, fun _ _ => rfl, List.Perm.refl _⟩
theorem Re.trans {a b : Nat} {s t u : List Rw} (h : Re a b s t) (k : Re a b t u) : Re a b s u :=
  ⟨k.1.trans h.1, fun i hi => (k.2.1 i hi).trans (h.2.1 i hi), k.2.2.trans h.2.2⟩
theorem Re.mono {a b a' b' : Nat} {s t : List Rw} (h : Re a b s t) (ha : a' ≤ a) (hb : b ≤ b') : Re a' b' s t :=
  ⟨h.1, fun i hi => h.2.1 i (by omega), h.2.2⟩
theorem Re.split {a b : Nat} {s t : List Rw} (h : Re a b s t) (hab : a ≤ b) (hb : b ≤ s.length) : ((t.drop a).take (b - a)).Perm ((s.drop a).take (b - a)) := by
  have key : ∀ u : List Rw, u = u.take a ++ ((u.drop a).take (b - a) ++ u.drop b) := fun u => by
    have e : (u.drop a).drop (b - a) = u.drop b := by rw [List.drop_drop, show a + (b - a) = b by omega]
    rw [← e, List.take_append_drop, List.take_append_drop]
  have h1 : t.take a = s.take a := by
    apply List.ext_getElem?
    intro k
    rw [List.getElem?_take, List.getElem?_take]
    split
    · exact h.2.1 k (by omega)
    · rfl
  have h2 : t.drop b = s.drop b := by
    apply List.ext_getElem?
    intro k
    rw [List.getElem?_drop, List.getElem?_drop]
    exact h.2.1 _ (by omega)
  have h3 := h.2.2
  rw [key t, key s, h1, h2] at h3
  exact (List.perm_append_right_iff _).1 ((List.perm_append_left_iff _).1 h3)
/-- what lies there after lay there before -/
theorem Re.mem {a b : Nat} {s t : List Rw} (h : Re a b s t) (hb : b ≤ s.length) {k : Nat} {x : Rw} (h1 : a ≤ k) (h2 : k < b) (hx : t[k]? = some x) : ∃ k', a ≤ k' ∧ k' < b ∧ s[k']? = some x := by
  have hp := h.split (by omega) hb
  have hm : x ∈ (t.drop a).take (b - a) := by
    refine List.mem_iff_getElem?.2 ⟨k - a, ?_⟩
    rw [List.getElem?_take, if_pos (by omega), List.getElem?_drop, show a + (k - a) = k by omega]
    exact hx
  obtain ⟨j, hj⟩ := List.mem_iff_getElem?.1 (hp.mem_iff.1 hm)
  rw [List.getElem?_take] at hj
  split at hj
  · rw [List.getElem?_drop] at hj
    exact ⟨a + j, by omega, by omega, hj⟩
  · cases hj
/-- two rows exchanged -/
def swp (s : List Rw) (i j : Nat) : List Rw := (s.set i (s.getD j [])).set j (s.getD i [])
theorem swp_len (s : List Rw) (i j : Nat) : (swp s i j).length = s.length := by unfold swp; rw [List.length_set, List.length_set]
theorem getD_get {s : List Rw} {k : Nat} (h : k < s.length) : s[k]? = some (s.getD k []) := by
  rw [List.getD_eq_getElem?_getD, List.getElem?_eq_getElem h]
  rfl
theorem swp_at {s : List Rw} {i j : Nat} (hi : i < s.length) (hj : j < s.length) (k : Nat) : (swp s i j)[k]? = if k = j then s[i]? else if k = i then s[j]? else s[k]? := by
  unfold swp
  by_cases h : k = j
  · subst h
    rw [if_pos rfl, List.getElem?_set_self (by rw [List.length_set]; exact hj), getD_get hi]
  · rw [if_neg h, List.getElem?_set_ne (by omega)]
    by_cases h2 : k = i
    · subst h2
      rw [if_pos rfl, List.getElem?_set_self hi, getD_get hj]
    · rw [if_neg h2, List.getElem?_set_ne (by omega)]
theorem swp_re {s : List Rw} {i j a b : Nat} (hi : i < s.length) (hj : j < s.length) (h1 : a ≤ i) (h2 : i < b) (h3 : a ≤ j) (h4 : j < b) : Re a b s (swp s i j) := by
  refine ⟨swp_len _ _ _, fun k hk => by rw [swp_at hi hj, if_neg (by omega), if_neg (by omega)], ?_⟩
  have h := Array.swap_perm (xs := s.toArray) (i := i) (j := j) (by simpa using hi) (by simpa using hj)
  have h5 := h.toList
  have e : (s.toArray.swap i j (by simpa using hi) (by simpa using hj)).toList = swp s i j := by
    unfold swp
    rw [List.getD_eq_getElem?_getD, List.getD_eq_getElem?_getD, List.getElem?_eq_getElem hi, List.getElem?_eq_getElem hj]
    simp [Array.swap]
  rw [e] at h5
  simpa using h5
/-- sorted between a and b -/
def So (a b : Nat) (s : List Rw) : Prop := ∀ i j x y, a ≤ i → i < j → j < b → s[i]? = some x → s[j]? = some y → cmpR x y ≤ 0
theorem So.small {a b : Nat} {s : List Rw} (h : b ≤ a + 1) : So a b s := fun i j x y h1 h2 h3 _ _ => by omega
theorem So.sub {a b a' b' : Nat} {s : List Rw} (h : So a b s) (h1 : a ≤ a') (h2 : b' ≤ b) : So a' b' s := fun i j x y g1 g2 g3 => h i j x y (by omega) g2 (by omega)
theorem So.keep {a b : Nat} {s t : List Rw} (h : So a b s) (he : ∀ k, a ≤ k → k < b → t[k]? = s[k]?) : So a b t := fun i j x y g1 g2 g3 e1 e2 =>
  h i j x y g1 g2 g3 (by rw [← he i g1 (by omega)]; exact e1) (by rw [← he j (by omega) g3]; exact e2)
/-- all of the first part at or below all of the second -/
def Lq (a m b : Nat) (s : List Rw) : Prop := ∀ i j x y, a ≤ i → i < m → m ≤ j → j < b → s[i]? = some x → s[j]? = some y → cmpR x y ≤ 0
theorem So.join {a m b : Nat} {s : List Rw} (h1 : So a m s) (h2 : So m b s) (h : Lq a m b s) : So a b s := fun i j x y g1 g2 g3 e1 e2 => by
  by_cases hj : j < m
  · exact h1 i j x y g1 g2 hj e1 e2
  · by_cases hi : i < m
    · exact h i j x y g1 hi (by omega) g3 e1 e2
    · exact h2 i j x y (by omega) g2 g3 e1 e2
theorem Lq.re1 {a m b : Nat} {s t : List Rw} (h : Lq a m b s) (hr : Re a m s t) (hm : m ≤ s.length) : Lq a m b t := fun i j x y g1 g2 g3 g4 e1 e2 => by
  obtain ⟨k, k1, k2, k3⟩ := hr.mem hm g1 g2 e1
  exact h k j x y k1 k2 g3 g4 k3 (by rw [← hr.2.1 j (.inr g3)]; exact e2)
theorem Lq.re2 {a m b : Nat} {s t : List Rw} (h : Lq a m b s) (hr : Re m b s t) (hm : b ≤ s.length) : Lq a m b t := fun i j x y g1 g2 g3 g4 e1 e2 => by
  obtain ⟨k, k1, k2, k3⟩ := hr.mem hm g3 g4 e2
  exact h i k x y g1 g2 k1 k2 (by rw [← hr.2.1 i (.inl g2)]; exact e1) k3
/-- The list sorted: there is one. -/
def sortC (s : List Rw) : List Rw := s.mergeSort fun x y => decide (cmpR x y ≤ 0)
theorem sortC_perm (s : List Rw) : (sortC s).Perm s := List.mergeSort_perm _ _
theorem sortC_so (s : List Rw) : (sortC s).Pairwise fun x y => cmpR x y ≤ 0 := by
  have := List.pairwise_mergeSort (le := fun x y : Rw => decide (cmpR x y ≤ 0)) (fun a b c h1 h2 => by
    simp only [decide_eq_true_eq] at h1 h2 ⊢
    exact cmpR_trans h1 h2) (fun a b => by
    have := cmpR_neg a b
    simp only [Bool.or_eq_true, decide_eq_true_eq]
    omega) s
  exact this.imp fun h => of_decide_eq_true h
theorem sorted_one {s t : List Rw} (hp : t.Perm s) (ht : t.Pairwise fun x y => cmpR x y ≤ 0) : t = sortC s := by
  refine List.Perm.eq_of_pairwise ?_ ht (sortC_so s) (hp.trans (sortC_perm s).symm)
  intro a b _ _ h1 h2
  have := cmpR_neg a b
  exact cmpR_eq (by omega)
theorem So.pair {s : List Rw} (h : So 0 s.length s) : s.Pairwise fun x y => cmpR x y ≤ 0 := by
  rw [List.pairwise_iff_getElem]
  intro i j hi hj hij
  exact h i j _ _ (by omega) hij hj (List.getElem?_eq_getElem hi) (List.getElem?_eq_getElem hj)
theorem so_sortC {s t : List Rw} (hr : Re 0 s.length s t) (h : So 0 s.length t) : t = sortC s :=
  sorted_one hr.2.2 (So.pair (by rw [hr.1]; exact h))
theorem sortC_again (s : List Rw) : sortC (sortC s) = sortC s := (sorted_one (sortC_perm s) (sortC_so s) ▸ (sorted_one (List.Perm.refl _) (sortC_so s)).symm)

/-- Sinking: s with its row i put to j, those between moved up by one. -/
structure Sink (s t : List Rw) (a i j : Nat) : Prop where
  re : Re a (i + 1) s t
  low : ∀ k, k < j → t[k]? = s[k]?
  here : t[j]? = s[i]?
  high : ∀ k, j ≤ k → k < i → t[k + 1]? = s[k]?
  le : ∀ k x y, j ≤ k → k < i → s[k]? = some x → s[i]? = some y → cmpR y x < 0
theorem Sink.start {s : List Rw} {a i : Nat} : Sink s s a i i := ⟨Re.refl _ _ _, fun _ _ => rfl, rfl, fun k h1 h2 => by omega, fun k x y h1 h2 => by omega⟩
theorem Sink.step {s t : List Rw} {a i j : Nat} (h : Sink s t a i (j + 1)) (hi : i < s.length) (hj : j + 1 ≤ i) (ha : a ≤ j) {x y : Rw} (hx : t[j + 1]? = some x) (hy : t[j]? = some y) (hlt : cmpR x y < 0) : Sink s (swp t (j + 1) j) a i j := by
  have hl := h.re.1
  have h1 : j + 1 < t.length := by omega
  have h2 : j < t.length := by omega
  have hsw := swp_at h1 h2
  refine ⟨h.re.trans (swp_re h1 h2 (by omega) (by omega) ha (by omega)), fun k hk => ?_, ?_, fun k k1 k2 => ?_, fun k u v k1 k2 e1 e2 => ?_⟩
  · rw [hsw, if_neg (by omega), if_neg (by omega)]
    exact h.low k (by omega)
  · rw [hsw, if_pos rfl]
    exact h.here
  · rw [hsw, if_neg (by omega)]
    by_cases hk : k = j
    · subst hk
      rw [if_pos rfl]
      exact h.low k (by omega)
    · rw [if_neg (by omega)]
      exact h.high k (by omega) k2
  · by_cases hk : k = j
    · subst hk
      rw [← h.low k (by omega), hy] at e1
      rw [← h.here, hx] at e2
      injection e1 with e1
      injection e2 with e2
      rw [← e1, ← e2]
      exact hlt
    · exact h.le k u v (by omega) k2 e1 e2
theorem Sink.stop {s t : List Rw} {a i j : Nat} (h : Sink s t a i j) (hi : i < s.length) (haj : a ≤ j) (hj : j ≤ i) (hs : So a i s) (he : j = a ∨ ∃ x y, t[j]? = some x ∧ t[j - 1]? = some y ∧ cmpR y x ≤ 0) : So a (i + 1) t := by
  have hxi : s[i]? = some s[i] := List.getElem?_eq_getElem hi
  have hlow : ∀ k x, a ≤ k → k < j → s[k]? = some x → cmpR x s[i] ≤ 0 := fun k x k1 k2 e => by
    rcases he with he | ⟨u, v, e1, e2, e3⟩
    · omega
    · rw [h.here, hxi] at e1
      injection e1 with e1
      rw [h.low _ (by omega)] at e2
      rw [← e1] at e3
      by_cases hk : k = j - 1
      · subst hk
        rw [e] at e2
        injection e2 with e2
        rw [e2]
        exact e3
      · exact cmpR_trans (hs k (j - 1) x v k1 (by omega) (by omega) e e2) e3
  intro p q x y p1 p2 p3 e1 e2
  have cls : ∀ k z, a ≤ k → k < i + 1 → t[k]? = some z → (k < j ∧ s[k]? = some z) ∨ (k = j ∧ z = s[i]) ∨ (j < k ∧ s[k - 1]? = some z) := fun k z k1 k2 e => by
    by_cases g1 : k < j
    · exact .inl ⟨g1, by rw [← h.low k g1]; exact e⟩
    · by_cases g2 : k = j
      · subst g2
        rw [h.here, hxi] at e
        injection e with e
        exact .inr (.inl ⟨rfl, e.symm⟩)
      · have := h.high (k - 1) (by omega) (by omega)
        rw [show k - 1 + 1 = k by omega, e] at this
        exact .inr (.inr ⟨by omega, this.symm⟩)
  rcases cls p x p1 (by omega) e1 with ⟨c1, d1⟩ | ⟨c1, d1⟩ | ⟨c1, d1⟩ <;> rcases cls q y (by omega) p3 e2 with ⟨c2, d2⟩ | ⟨c2, d2⟩ | ⟨c2, d2⟩
  · exact hs p q x y p1 p2 (by omega) d1 d2
  · rw [d2]; exact hlow p x p1 c1 d1
  · by_cases g : p = q - 1
    · subst g
      rw [d1] at d2
      injection d2 with d2
      rw [d2, cmpR_self]
      exact Int.le_refl _
    · exact hs p (q - 1) x y p1 (by omega) (by omega) d1 d2
  · omega
  · omega
  · rw [d1]
    have := h.le (q - 1) y s[i] (by omega) (by omega) d2 hxi
    omega
  · omega
  · omega
  · exact hs (p - 1) (q - 1) x y (by omega) (by omega) (by omega) d1 d2

/-- n rows from a on exchanged with those from b on -/
structure SwR (s t : List Rw) (a b n : Nat) : Prop where
  len : t.length = s.length
  one : ∀ k, k < n → t[a + k]? = s[b + k]?
  two : ∀ k, k < n → t[b + k]? = s[a + k]?
  out : ∀ k, (k < a ∨ a + n ≤ k) → (k < b ∨ b + n ≤ k) → t[k]? = s[k]?
  perm : t.Perm s
theorem SwR.start {s : List Rw} {a b : Nat} : SwR s s a b 0 := ⟨rfl, fun k h => by omega, fun k h => by omega, fun _ _ _ => rfl, List.Perm.refl _⟩
theorem SwR.step {s t : List Rw} {a b n : Nat} (h : SwR s t a b n) (hab : a + n < b) (hb : b + n < s.length) : SwR s (swp t (a + n) (b + n)) a b (n + 1) := by
  have hl := h.len
  have h1 : a + n < t.length := by omega
  have h2 : b + n < t.length := by omega
  have hsw := swp_at h1 h2
  refine ⟨by rw [swp_len]; exact hl, fun k hk => ?_, fun k hk => ?_, fun k g1 g2 => ?_, (swp_re (a := 0) (b := t.length) h1 h2 (by omega) h1 (by omega) h2).2.2.trans h.perm⟩
  · rw [hsw, if_neg (by omega)]
    by_cases e : k = n
    · subst e
      rw [if_pos rfl]
      exact h.out _ (by omega) (by omega)
    · rw [if_neg (by omega)]
      exact h.one k (by omega)
  · rw [hsw]
    by_cases e : k = n
    · subst e
      rw [if_pos rfl]
      exact h.out _ (by omega) (by omega)
    · rw [if_neg (by omega), if_neg (by omega)]
      exact h.two k (by omega)
  · rw [hsw, if_neg (by omega), if_neg (by omega)]
    exact h.out k (by omega) (by omega)
theorem SwR.re {s t : List Rw} {a b n lo hi : Nat} (h : SwR s t a b n) (h1 : lo ≤ a) (h2 : a + n ≤ hi) (h3 : lo ≤ b) (h4 : b + n ≤ hi) : Re lo hi s t :=
  ⟨h.len, fun k hk => h.out k (by omega) (by omega), h.perm⟩
/-- Rotating: on the way from s to t, with i rows before m and j rows from m on still to be exchanged. -/
structure Rot (s u : List Rw) (a m b i j : Nat) : Prop where
  re : Re a b s u
  ii : i ≤ m - a
  jj : j ≤ b - m
  low : ∀ k, a ≤ k → k < m - i → (k < a + (b - m) → u[k]? = s[k + (m - a)]?) ∧ (a + (b - m) ≤ k → u[k]? = s[k - (b - m)]?)
  high : ∀ k, m + j ≤ k → k < b → (k < a + (b - m) → u[k]? = s[k + (m - a)]?) ∧ (a + (b - m) ≤ k → u[k]? = s[k - (b - m)]?)
  one : ∀ k, k < j → (m - i + k < a + (b - m) → u[m + k]? = s[m - i + k + (m - a)]?) ∧ (a + (b - m) ≤ m - i + k → u[m + k]? = s[m - i + k - (b - m)]?)
  two : ∀ k, k < i → (m - i + j + k < a + (b - m) → u[m - i + k]? = s[m - i + j + k + (m - a)]?) ∧ (a + (b - m) ≤ m - i + j + k → u[m - i + k]? = s[m - i + j + k - (b - m)]?)
theorem Rot.start {s : List Rw} {a m b : Nat} (h1 : a ≤ m) (h2 : m ≤ b) : Rot s s a m b (m - a) (b - m) :=
  ⟨Re.refl _ _ _, Nat.le_refl _, Nat.le_refl _, fun k g1 g2 => by omega, fun k g1 g2 => by omega, fun k hk => ⟨fun _ => by congr 1; omega, fun _ => by omega⟩, fun k hk => ⟨fun _ => by omega, fun _ => by congr 1; omega⟩⟩
theorem Rot.big {s u v : List Rw} {a m b i j : Nat} (h : Rot s u a m b i j) (h1 : a ≤ m) (h2 : m ≤ b) (hb : b ≤ s.length) (hij : j < i) (hs : SwR u v (m - i) m j) : Rot s v a m b (i - j) j := by
  have q1 := h.ii
  have q2 := h.jj
  refine ⟨h.re.trans (hs.re (by omega) (by omega) (by omega) (by omega)), by omega, q2, fun k g1 g2 => ?_, fun k g1 g2 => ?_, fun k hk => ?_, fun k hk => ?_⟩
  · by_cases hk : k < m - i
    · rw [hs.out k (by omega) (by omega)]
      exact h.low k g1 hk
    · have e := hs.one (k - (m - i)) (by omega)
      rw [show m - i + (k - (m - i)) = k by omega] at e
      rw [e]
      have := h.one (k - (m - i)) (by omega)
      rw [show m - i + (k - (m - i)) = k by omega] at this
      exact this
  · rw [hs.out k (by omega) (by omega)]
    exact h.high k g1 g2
  · rw [hs.two k hk]
    have := h.two k (by omega)
    rw [show m - (i - j) + k = m - i + j + k by omega]
    exact this
  · rw [show m - (i - j) + j + k = m - i + j + (j + k) by omega, show m - (i - j) + k = m - i + (j + k) by omega]
    rw [hs.out (m - i + (j + k)) (by omega) (by omega)]
    exact h.two (j + k) (by omega)
theorem Rot.small {s u v : List Rw} {a m b i j : Nat} (h : Rot s u a m b i j) (h1 : a ≤ m) (h2 : m ≤ b) (hb : b ≤ s.length) (hij : i < j) (hs : SwR u v (m - i) (m + j - i) i) : Rot s v a m b i (j - i) := by
  have q1 := h.ii
  have q2 := h.jj
  refine ⟨h.re.trans (hs.re (by omega) (by omega) (by omega) (by omega)), q1, by omega, fun k g1 g2 => ?_, fun k g1 g2 => ?_, fun k hk => ?_, fun k hk => ?_⟩
  · rw [hs.out k (by omega) (by omega)]
    exact h.low k g1 g2
  · by_cases hk : m + j ≤ k
    · rw [hs.out k (by omega) (by omega)]
      exact h.high k hk g2
    · have e := hs.two (k - (m + j - i)) (by omega)
      rw [show m + j - i + (k - (m + j - i)) = k by omega] at e
      rw [e]
      have := h.two (k - (m + j - i)) (by omega)
      rw [show m - i + j + (k - (m + j - i)) = k by omega] at this
      exact this
  · rw [hs.out (m + k) (by omega) (by omega)]
    exact h.one k (by omega)
  · have e := hs.one k hk
    rw [e, show m - i + (j - i) + k = m - i + (j - i + k) by omega, show m + j - i + k = m + (j - i + k) by omega]
    exact h.one (j - i + k) (by omega)
/-- what a rotation comes to -/
structure RotE (s t : List Rw) (a m b : Nat) : Prop where
  re : Re a b s t
  one : ∀ k, a ≤ k → k < a + (b - m) → t[k]? = s[k + (m - a)]?
  two : ∀ k, a + (b - m) ≤ k → k < b → t[k]? = s[k - (b - m)]?
theorem Rot.last {s u v : List Rw} {a m b i : Nat} (h : Rot s u a m b i i) (h1 : a ≤ m) (h2 : m ≤ b) (hb : b ≤ s.length) (hs : SwR u v (m - i) m i) : RotE s v a m b := by
  have q1 := h.ii
  have q2 := h.jj
  have key : ∀ k, a ≤ k → k < b → (k < a + (b - m) → v[k]? = s[k + (m - a)]?) ∧ (a + (b - m) ≤ k → v[k]? = s[k - (b - m)]?) := fun k g1 g2 => by
    by_cases c1 : k < m - i
    · rw [hs.out k (by omega) (by omega)]
      exact h.low k g1 c1
    · by_cases c2 : k < m
      · have e := hs.one (k - (m - i)) (by omega)
        rw [show m - i + (k - (m - i)) = k by omega] at e
        rw [e]
        have := h.one (k - (m - i)) (by omega)
        rw [show m - i + (k - (m - i)) = k by omega] at this
        exact this
      · by_cases c3 : k < m + i
        · have e := hs.two (k - m) (by omega)
          rw [show m + (k - m) = k by omega] at e
          rw [e]
          have := h.two (k - m) (by omega)
          rw [show m - i + i + (k - m) = k by omega] at this
          exact this
        · rw [hs.out k (by omega) (by omega)]
          exact h.high k (by omega) g2
  exact ⟨h.re.trans (hs.re (by omega) (by omega) (by omega) (by omega)), fun k g1 g2 => (key k g1 (by omega)).1 g2, fun k g1 g2 => (key k (by omega) g2).2 g1⟩

/-- The cut of a merge: below st (and from m up to its partner en) all is at or below the rest. -/
structure CutAt (s : List Rw) (a m b st en : Nat) : Prop where
  lo : ∀ x y, a < st → s[st - 1]? = some x → en < b → s[en]? = some y → cmpR x y ≤ 0
  hi : ∀ x y, st < m → s[st]? = some x → m < en → s[en - 1]? = some y → cmpR y x ≤ 0
theorem cut_rot {s t : List Rw} {a m b st mid en : Nat} (hs1 : So a m s) (hs2 : So m b s) (hb : b ≤ s.length) (ha : a ≤ st) (hst : st ≤ m) (hen : m ≤ en) (hen2 : en ≤ b) (hen3 : st + en = mid + m)
    (hc : CutAt s a m b st en) (hr : RotE s t st m en) : Re a b s t ∧ So a st t ∧ So st mid t ∧ So mid en t ∧ So en b t ∧ Lq a mid b t := by
  have hE : st + (en - m) = mid := by omega
  have r1 := hr.one
  have r2 := hr.two
  rw [hE] at r1 r2
  have cls : ∀ k x, a ≤ k → k < b → t[k]? = some x → (k < st ∧ s[k]? = some x) ∨ (st ≤ k ∧ k < mid ∧ m ≤ k + (m - st) ∧ k + (m - st) < en ∧ s[k + (m - st)]? = some x) ∨ (mid ≤ k ∧ k < en ∧ st ≤ k - (en - m) ∧ k - (en - m) < m ∧ s[k - (en - m)]? = some x) ∨ (en ≤ k ∧ s[k]? = some x) := fun k x k1 k2 e => by
    by_cases c1 : k < st
    · exact .inl ⟨c1, by rw [← hr.re.2.1 k (.inl c1)]; exact e⟩
    · by_cases c2 : k < mid
      · exact .inr (.inl ⟨by omega, c2, by omega, by omega, by rw [← r1 k (by omega) c2]; exact e⟩)
      · by_cases c3 : k < en
        · exact .inr (.inr (.inl ⟨by omega, c3, by omega, by omega, by rw [← r2 k (by omega) c3]; exact e⟩))
        · exact .inr (.inr (.inr ⟨by omega, by rw [← hr.re.2.1 k (.inr (by omega))]; exact e⟩))
  -- the four parts of s against one another
  have U1V2 : ∀ i j x y, a ≤ i → i < st → en ≤ j → j < b → s[i]? = some x → s[j]? = some y → cmpR x y ≤ 0 := fun i j x y g1 g2 g3 g4 e1 e2 => by
    have hx : s[st - 1]? = some s[st - 1] := List.getElem?_eq_getElem (by omega)
    have hy : s[en]? = some s[en] := List.getElem?_eq_getElem (by omega)
    have h0 := hc.lo _ _ (by omega) hx (by omega) hy
    have h1 : cmpR x s[st - 1] ≤ 0 := by
      by_cases e : i = st - 1
      · subst e
        rw [hx] at e1
        injection e1 with e1
        rw [e1, cmpR_self]
        exact Int.le_refl _
      · exact hs1 i (st - 1) _ _ g1 (by omega) (by omega) e1 hx
    have h2 : cmpR s[en] y ≤ 0 := by
      by_cases e : j = en
      · subst e
        rw [hy] at e2
        injection e2 with e2
        rw [e2, cmpR_self]
        exact Int.le_refl _
      · exact hs2 en j _ _ (by omega) (by omega) g4 hy e2
    exact cmpR_trans h1 (cmpR_trans h0 h2)
  have U2V1 : ∀ i j x y, m ≤ i → i < en → st ≤ j → j < m → s[i]? = some x → s[j]? = some y → cmpR x y ≤ 0 := fun i j x y g1 g2 g3 g4 e1 e2 => by
    have hx : s[st]? = some s[st] := List.getElem?_eq_getElem (by omega)
    have hy : s[en - 1]? = some s[en - 1] := List.getElem?_eq_getElem (by omega)
    have h0 := hc.hi _ _ (by omega) hx (by omega) hy
    have h1 : cmpR x s[en - 1] ≤ 0 := by
      by_cases e : i = en - 1
      · subst e
        rw [hy] at e1
        injection e1 with e1
        rw [e1, cmpR_self]
        exact Int.le_refl _
      · exact hs2 i (en - 1) _ _ g1 (by omega) (by omega) e1 hy
    have h2 : cmpR s[st] y ≤ 0 := by
      by_cases e : j = st
      · subst e
        rw [hx] at e2
        injection e2 with e2
        rw [e2, cmpR_self]
        exact Int.le_refl _
      · exact hs1 st j _ _ ha (by omega) g4 hx e2
    exact cmpR_trans h1 (cmpR_trans h0 h2)
  refine ⟨hr.re.mono ha hen2, fun i j x y g1 g2 g3 e1 e2 => ?_, fun i j x y g1 g2 g3 e1 e2 => ?_, fun i j x y g1 g2 g3 e1 e2 => ?_, fun i j x y g1 g2 g3 e1 e2 => ?_, fun i j x y g1 g2 g3 g4 e1 e2 => ?_⟩
  · rw [hr.re.2.1 i (by omega)] at e1
    rw [hr.re.2.1 j (by omega)] at e2
    exact hs1 i j x y g1 g2 (by omega) e1 e2
  · rw [r1 i g1 (by omega)] at e1
    rw [r1 j (by omega) g3] at e2
    exact hs2 _ _ x y (by omega) (by omega) (by omega) e1 e2
  · rw [r2 i g1 (by omega)] at e1
    rw [r2 j (by omega) g3] at e2
    exact hs1 _ _ x y (by omega) (by omega) (by omega) e1 e2
  · rw [hr.re.2.1 i (by omega)] at e1
    rw [hr.re.2.1 j (by omega)] at e2
    exact hs2 i j x y (by omega) g2 g3 e1 e2
  · rcases cls i x g1 (by omega) e1 with ⟨c1, d1⟩ | ⟨c1, c2, c3, c4, d1⟩ | ⟨c1, c2, c3, c4, d1⟩ | ⟨c1, d1⟩ <;> rcases cls j y (by omega) g4 e2 with ⟨c5, d2⟩ | ⟨c5, c6, c7, c8, d2⟩ | ⟨c5, c6, c7, c8, d2⟩ | ⟨c5, d2⟩
    · omega
    · omega
    · exact hs1 _ _ x y g1 (by omega) c8 d1 d2
    · exact U1V2 _ _ x y g1 c1 c5 g4 d1 d2
    · omega
    · omega
    · exact U2V1 _ _ x y c3 c4 c7 c8 d1 d2
    · exact hs2 _ _ x y c3 (by omega) g4 d1 d2
    all_goals omega
end Go.Proofs.Ytnjojnnapdhijaa

namespace Go.Proofs.Ytnjojnnapdhijaa
open Go.RowKit
set_option linter.unusedVariables false

def sgm (i j k : Nat) : Nat := if k = j then i else if k = i then j else k
theorem sgm_inj {i j k l : Nat} (h : sgm i j k = sgm i j l) : k = l := by
  unfold sgm at h
  split at h <;> split at h <;> (try split at h) <;> (try split at h) <;> omega
theorem set_set_at {α : Type} {l : List α} {i j : Nat} {x y : α} (hx : l[i]? = some x) (hy : l[j]? = some y) (k : Nat) : ((l.set i y).set j x)[k]? = l[sgm i j k]? := by
  have h1 := (List.getElem?_eq_some_iff.1 hx).1
  have h2 := (List.getElem?_eq_some_iff.1 hy).1
  unfold sgm
  by_cases e : k = j
  · subst e
    rw [if_pos rfl, List.getElem?_set_self (by rw [List.length_set]; exact h2), hx]
  · rw [if_neg e, List.getElem?_set_ne (fun h => e h.symm)]
    by_cases e2 : k = i
    · subst e2
      rw [if_pos rfl, List.getElem?_set_self h1, hy]
    · rw [if_neg e2, List.getElem?_set_ne (fun h => e2 h.symm)]
theorem swp_eq {s : List Rw} {i j : Nat} {x y : Rw} (hx : s[i]? = some x) (hy : s[j]? = some y) : swp s i j = (s.set i y).set j x := by
  unfold swp
  rw [List.getD_eq_getElem?_getD, List.getD_eq_getElem?_getD, hx, hy]
  rfl
section
variable {w : World} {base top : Nat} {A : Option Addr} {c : Nat} {code : List (List Int)}
theorem ownI_hd {B : Option Addr} {d : Nat} {xs : List Int} {hs : List Hd} {b2 : Nat} (ho : OwnI w base B d xs) (h : Own hdE w b2 A c hs) : blk B = none ∨ blk B ≠ blk A := by
  rw [← intE_own] at ho
  exact Own.own_ne ho h (by decide)
/-- two rows exchanged -/
theorem OwnC.swap {g : Nat} (h : OwnC w base top (some ⟨g, 0, none⟩) c code) {i j : Nat} (hi : i < code.length) (hj : j < code.length) (hij : i ≠ j) :
    ∃ B1 d1 r1 B2 d2 r2, g < w.heap.size ∧ base ≤ g ∧ code[i]? = some r1 ∧ code[j]? = some r2 ∧ w.cell? ⟨g, i, none⟩ = some (.slice B1 r1.length d1) ∧ w.cell? ⟨g, j, none⟩ = some (.slice B2 r2.length d2) ∧
      w.frozen? ⟨g, i, none⟩ = false ∧ w.frozen? ⟨g, j, none⟩ = false ∧ RI w B1 r1 ∧ RI w B2 r2 ∧
      OwnC ((w.setCell ⟨g, i, none⟩ (.slice B2 r2.length d2)).setCell ⟨g, j, none⟩ (.slice B1 r1.length d1)) base top (some ⟨g, 0, none⟩) c (swp code i j) ∧
      w.grownBy ((w.setCell ⟨g, i, none⟩ (.slice B2 r2.length d2)).setCell ⟨g, j, none⟩ (.slice B1 r1.length d1)) (some g) := by
  obtain ⟨hs, h1, h2, h3, h4, h5⟩ := h
  obtain ⟨g1, x, e, hgb, hgs, hx, hc, hf⟩ := h1.row (k := i) (by omega)
  injection e with e
  injection e with e
  subst e
  obtain ⟨g2, y, e, _, _, hy, hc2, hf2⟩ := h1.row (k := j) (by omega)
  injection e with e
  injection e with e
  subst e
  have hr1 : code[i]? = some code[i] := List.getElem?_eq_getElem hi
  have hr2 : code[j]? = some code[j] := List.getElem?_eq_getElem hj
  obtain ⟨p1, p2, p3⟩ := h4 i x _ hx hr1
  obtain ⟨q1, q2, q3⟩ := h4 j y _ hy hr2
  have hci : w.cell? ⟨g, i, none⟩ = some (.slice x.A code[i].length x.c) := by
    have := hc 0 _ rfl
    rw [← p1]
    simpa [hdE] using this
  have hcj : w.cell? ⟨g, j, none⟩ = some (.slice y.A code[j].length y.c) := by
    have := hc2 0 _ rfl
    rw [← q1]
    simpa [hdE] using this
  have P1 := h1.put (k := i) (j := 0) (x := x) (y := y) (u := .slice y.A y.n y.c) hx (by simp [hdE]) rfl
  have hy1 : (hs.set i y)[j]? = some y := by rw [List.getElem?_set_ne hij]; exact hy
  have P2 := P1.1.put (k := j) (j := 0) (x := y) (y := x) (u := .slice x.A x.n x.c) hy1 (by simp [hdE]) rfl
  rw [p1, q1] at P2
  rw [q1] at P1
  have G := grown_trans P1.2 P2.2
  have O := P2.1
  simp only [hdE, Nat.mul_one, Nat.add_zero] at G O
  refine ⟨x.A, x.c, code[i], y.A, y.c, code[j], hgs, hgb, hr1, hr2, hci, hcj, hf _, hf _, p2.rd, q2.rd, ⟨(hs.set i y).set j x, O, h2, by rw [swp_len, List.length_set, List.length_set]; exact h3, fun k h xs e1 e2 => ?_, fun k l h h' e1 e2 hkl => ?_⟩, G⟩
  · rw [set_set_at hx hy] at e1
    rw [swp_eq hr1 hr2, set_set_at hr1 hr2] at e2
    obtain ⟨s1, s2, s3⟩ := h4 _ h xs e1 e2
    refine ⟨s1, s2.grown G ?_, s3⟩
    rcases ownI_hd s2 h1 with h | h
    · exact .inl h
    · exact .inr h
  · rw [set_set_at hx hy] at e1 e2
    exact h5 _ _ h h' e1 e2 (fun e => hkl (sgm_inj e))
end
theorem sortCmp_any (A B : Option Addr) (c d : Nat) (xs ys : List Int) (w : World) (hA : RI w A xs) (hB : RI w B ys) (hn : xs.length ≤ 1048576) (hm : ys.length ≤ 1048576) :
    Calls Try.prog 82 #[.slice A xs.length c, .slice B ys.length d] w fun e w' => e = .returned (.int .i64 (cmpR xs ys)) ∧ w = w' := by
  by_cases h : xs.length = ys.length
  · have HV : Hid (cmpR xs ys = cmpL xs ys) := hide (by unfold cmpR; rw [if_pos h])
    have HC := hide (slCompare_any A B c d xs ys w hA hB hn hm)
    have hne : ((xs.length : Int) != (ys.length : Int)) = false := by rw [h]; simp
    clear h
    go_enter Try.func82, Try.ntmps82
    go_wp2_with fail
    refine HC.out.mono ?_
    rintro e w1 ⟨rfl, rfl⟩
    go_wp2_with fail
    go_ret
    rw [HV.out]
    exact ⟨rfl, rfl⟩
  · have HV : Hid (cmpR xs ys = (xs.length : Int) - (ys.length : Int)) := hide (by unfold cmpR; rw [if_neg h])
    have hne : ((xs.length : Int) != (ys.length : Int)) = true := by simpa using fun e : (xs.length : Int) = ys.length => h (by omega)
    have hw : IntKind.i64.wrap ((xs.length : Int) - (ys.length : Int)) = (xs.length : Int) - (ys.length : Int) := by rw [IntKind.wrap_i64]; omega
    clear h
    go_enter Try.func82, Try.ntmps82
    go_wp2_with fail
    go_ret
    rw [HV.out]
    exact ⟨rfl, rfl⟩
end Go.Proofs.Ytnjojnnapdhijaa
