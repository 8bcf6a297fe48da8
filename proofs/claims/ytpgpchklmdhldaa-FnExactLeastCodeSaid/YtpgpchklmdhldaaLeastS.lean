/-
  Contract: LeastCode, of the reference. Conditions: none beyond the lengths.
-/
import Derived.Test.YtpgpchklmdhldaaLeastMath
import Derived.Test.YtpgpchklmdhldaaBelow
import Derived.Test.YtpgpchklmdhldaaRenI
namespace Go.Proofs.Ytpgpchklmdhldaa
open Go.RowKit
set_option linter.unusedVariables false

def leastCR (code : List (List Int)) : List (List Int) × Int := if validC code = true then (if code.length = 1 then ([leastR (code.getD 0 [])], 0) else ([], 6)) else ([], 1)
theorem triS_len (xs : List Int) (m : Nat) : ∀ l ∈ triS xs m, l.length ≤ xs.length := fun l hl => by
  unfold triS at hl
  obtain ⟨r, hr, hlr⟩ := List.mem_flatten.1 hl
  obtain ⟨a, ha, rfl⟩ := List.mem_map.1 hr
  have h1 := renL_len (turnL xs a false)
  have h2 := renL_len (turnL xs a true)
  rw [turnL_len] at h1 h2
  rcases List.mem_cons.1 hlr with rfl | h
  · exact h1
  · rw [List.mem_singleton] at h
    subst h
    exact h2
theorem leastR_len (xs : List Int) : (leastR xs).length ≤ xs.length := leastL_len (renL_len xs) (triS_len xs _)
theorem sumLen_one (l : List Int) : sumLen [l] = l.length := by simp [sumLen]
theorem leastCR_len (code : List (List Int)) (hn : code.length + sumLen code ≤ 1048576) : (leastCR code).1.length + sumLen (leastCR code).1 ≤ 1048576 := by
  unfold leastCR
  split
  · split
    · rename_i h1
      obtain ⟨xs, rfl⟩ : ∃ xs, code = [xs] := List.length_eq_one_iff.1 h1
      have := leastR_len xs
      rw [sumLen_one] at hn
      simp only [List.getD_cons_zero, List.length_singleton, sumLen_one] at *
      omega
    · simp [sumLen]
  · simp [sumLen]
theorem RC.one {w : World} {base : Nat} {B : Option Addr} {d : Nat} {l : List Int} (h : OwnI w base B d l) (n : Nat) (hn : n = w.heap.size) : RC (w.alloc (.cells #[.slice B l.length d] 33)) (w.heap.size + 1) (some ⟨n, 0, none⟩) [l] := by
  subst hn
  refine ⟨[⟨B, l.length, d⟩], RG.fresh (E := hdE) w _ rfl ⟨B, l.length, d⟩ #[.slice B l.length d] rfl _, fun g hg _ => by have := blk_inj hg; omega, rfl, fun i hd xs e1 e2 => ?_⟩
  cases i with
  | succ i => simp at e1
  | zero =>
    simp at e1 e2
    subst e1 e2
    have hc := h.cap
    refine ⟨rfl, hc.1, by have := hc.2; unfold maxLen at this; exact this, h.rd.alloc _, fun g hg hn => ?_⟩
    have := (h.ge hg).2
    omega
theorem OwnC.row0 {w : World} {base top : Nat} {A : Option Addr} {c : Nat} {l : List Int} (h : OwnC w base top A c [l]) : ∃ g B d, A = some ⟨g, 0, none⟩ ∧ g < w.heap.size ∧ w.cell? ⟨g, 0, none⟩ = some (.slice B l.length d) ∧ RI w B l := by
  obtain ⟨g, B, d, xs, rfl, _, _, hg, hx, hc, _, ho, _⟩ := h.row (k := 0) (by simp)
  simp at hx
  subst hx
  exact ⟨g, B, d, rfl, hg, hc, ho.rd⟩

set_option maxRecDepth 100000 in
set_option maxHeartbeats 8000000 in
theorem specLeast_any (A : Option Addr) (c T : Nat) (code : List (List Int)) (w : World) (hc : RC w T A code) (hn : code.length + sumLen code ≤ 1048576) :
    Calls Try.prog 29 #[.slice A code.length c] w (RetCC w (leastCR code).1 (leastCR code).2) := by
  cases hv : validC code
  · have HV : Hid (leastCR code = ([], 1)) := hide (by unfold leastCR; rw [if_neg (by rw [hv]; simp)])
    go_enter Try.func29, Try.ntmps29
    go_wp2_with fail
    refine (l14Ok_any _ _ T code _ hc hn).mono ?_
    rw [hv]
    rintro e w1 ⟨rfl, hb1⟩
    clear hv
    go_wp2_with fail
    refine bodyPost_ret (v := .tuple #[.slice none 0 0, .int .i64 1]) (by simp [results, Try.results29, go_sem]) rfl ?_
    rw [HV.out]
    exact ⟨none, 0, rfl, OwnC.nil _ _ _, hb1⟩
  · by_cases h1 : code.length = 1
    · obtain ⟨xs, rfl⟩ : ∃ xs, code = [xs] := List.length_eq_one_iff.1 h1
      have HV : Hid (leastCR [xs] = ([leastR xs], 0)) := hide (by unfold leastCR; rw [if_pos hv, if_pos h1]; rfl)
      obtain ⟨hs1, hs2, hs3⟩ := valid_sum hv
      have hI := hide (valid_ints hv)
      have hN3 := hide hs3
      have HR : Hid (renameC [xs] = [renL xs]) := hide (renameC_one xs)
      obtain ⟨b, off, B, d, ys, rfl, hb, hy, hce0, hd1, hd2, hr0⟩ := hc.row (k := 0) (by simp)
      obtain rfl : ys = xs := by simpa using hy.symm
      rw [Nat.add_zero] at hce0
      rw [sumLen_one] at hn hs2
      have hyl : ys.length ≤ 240 := hs2
      have hn2 : Hid ([ys].length + sumLen [ys] ≤ 1048576) := hide (by rw [sumLen_one]; simp; omega)
      clear hy hd1 hd2 hs1 hs2 hs3
      have hvv := hide hv
      go_enter Try.func29, Try.ntmps29
      go_wp2_with fail
      refine (l14Ok_any _ _ T [ys] _ hc hn2.out).mono ?_
      rw [hv]
      rintro e w1 ⟨rfl, hb1⟩
      clear hv
      go_wp2_with fail
      refine (l15Rename_any _ _ T [ys] _ (hc.below hb1) hn2.out hN3.out hI.out).mono ?_
      rw [HR.out]
      rintro e w2 ⟨A2, c2, rfl, own2, hb2⟩
      have hB2 := hb1.trans (hb2.mono hb1.size)
      have own2' := own2.mono hb1.size (Nat.le_refl _)
      go_wp2_with fail
      go_loopw [4, 5] (fun o i wr => ∃ (a : Nat) (A1 : Option Addr) (c1 : Nat) (bst : List Int), a ≤ ys.length ∧ i = .int .i64 a ∧ o = .slice A1 1 c1 ∧ Hid (bst = leastL (renL ys) (triS ys a)) ∧ OwnC wr w.heap.size wr.heap.size A1 c1 [bst] ∧ Below w.heap.size w wr) (fun _ i _ => ys.length - (intOf i).toNat)
      case atStart => exact ⟨0, A2, c2, _, Nat.zero_le _, rfl, rfl, hide rfl, own2', hB2⟩
      case round =>
        clear own2 own2' hB2
        obtain ⟨a, A1, c1, bst, ha, rfl, rfl, hbst, own, hB⟩ := hrel
        have hce := (hB.cell (p := ⟨b, off, none⟩) hb).trans hce0
        by_cases hlt : a < ys.length
        · go_wp2_with fail
          go_loopw [4, 6] (fun o i wr => ∃ (k : Nat) (A1 : Option Addr) (c1 : Nat) (bst : List Int), k ≤ 2 ∧ i = .int .i64 k ∧ o = .slice A1 1 c1 ∧ Hid (bst = leastL (renL ys) (triS ys a ++ [renL (turnL ys a false), renL (turnL ys a true)].take k)) ∧ OwnC wr w.heap.size wr.heap.size A1 c1 [bst] ∧ Below w.heap.size w wr) (fun _ i _ => 2 - (intOf i).toNat)
          case atStart => exact ⟨0, A1, c1, bst, by omega, rfl, rfl, hide (by rw [List.take_zero, List.append_nil]; exact hbst.out), own, hB⟩
          case round =>
            clear own hB hbst hce
            obtain ⟨k, A1, c1, bst, hk, rfl, rfl, hbst, own, hB⟩ := hrel
            have hz := hB.size
            have hce := (hB.cell (p := ⟨b, off, none⟩) hb).trans hce0
            by_cases hlk : k < 2
            · have hbl : Hid (bst.length ≤ 1048576) := hide (by
                rw [hbst.out]
                refine Nat.le_trans (leastL_len (n := ys.length) (renL_len ys) (fun x hx => ?_)) (by omega)
                rw [List.mem_append] at hx
                rcases hx with hx | hx
                · exact triS_len ys a x hx
                · have hx' := List.mem_of_mem_take hx
                  have h3 := renL_len (turnL ys a false)
                  have h4 := renL_len (turnL ys a true)
                  rw [turnL_len] at h3 h4
                  rcases List.mem_cons.1 hx' with rfl | hx'
                  · exact h3
                  · rw [List.mem_singleton] at hx'
                    subst hx'
                    exact h4)
              obtain ⟨bk, hbk⟩ : ∃ bk : Bool, bk = decide (k = 1) := ⟨_, rfl⟩
              have hkb : ((k : Int) == 1) = bk := by
                rw [hbk]
                rcases (show k = 0 ∨ k = 1 by omega) with rfl | rfl <;> rfl
              have HT : Hid ([renL (turnL ys a false), renL (turnL ys a true)].take (k + 1) = [renL (turnL ys a false), renL (turnL ys a true)].take k ++ [renL (turnL ys a bk)]) := hide (by
                rw [hbk]
                rcases (show k = 0 ∨ k = 1 by omega) with rfl | rfl <;> rfl)
              obtain ⟨l, hl⟩ : ∃ l, l = turnL ys a bk := ⟨_, rfl⟩
              have hll : l.length ≤ 240 := by rw [hl, turnL_len]; exact hyl
              have HL := hide hl
              have hIl : Hid (∀ rs ∈ [l], ∀ x ∈ rs, x ≠ 0 ∧ -((sumLen [l] / 2 : Nat) : Int) ≤ x ∧ x ≤ ((sumLen [l] / 2 : Nat) : Int)) := hide (fun rs hrs x hx => by
                rw [List.mem_singleton] at hrs
                subst hrs
                rw [hl] at hx
                have := hI.out ys (by simp) x (turnL_mem hx)
                rw [sumLen_one] at this ⊢
                rw [hl, turnL_len]
                exact this)
              have hNl : Hid (sumLen [l] / 2 ≤ 120) := hide (by rw [sumLen_one]; omega)
              have hnl : Hid ([l].length + sumLen [l] ≤ 1048576) := hide (by rw [sumLen_one]; simp; omega)
              have HRl : Hid (renameC [l] = [renL l]) := hide (renameC_one l)
              clear hbk
              go_wp2_with fail
              refine (l15Turn_any _ _ a bk ys _ (hr0.below hB) (by omega) hlt).mono ?_
              rw [← hl]
              rintro e w3 ⟨A3, c3, rfl, own3, hb3⟩
              have hB3 := hB.trans (hb3.mono hz)
              have ownb3 := (own.below hb3).mono (Nat.le_refl _) hb3.size
              have rc3 := RC.one own3 w3.heap.size rfl
              have hB3' := hB3.alloc hB3.size (.cells #[.slice A3 l.length c3] 33)
              have ownb3' := ownb3.alloc (.cells #[.slice A3 l.length c3] 33)
              clear hl
              go_wp2_with fail
              refine (l15Rename_any _ _ _ [l] _ rc3 hnl.out hNl.out hIl.out).mono ?_
              rw [HRl.out]
              rintro e w4 ⟨A4, c4, rfl, own4, hb4⟩
              have hB4 := hB3'.trans (hb4.mono hB3'.size)
              have ownb4 := (ownb3'.below hb4).mono (Nat.le_refl _) (Nat.le_trans (by simp) hb4.size)
              have own4' := own4.mono (base' := w.heap.size) hB3'.size (Nat.le_refl _)
              have hz4 := hB4.size
              obtain ⟨x, hx⟩ : ∃ x, x = renL l := ⟨_, rfl⟩
              have HX := hide hx
              rw [← hx] at own4 own4'
              have hxl : x.length ≤ 1048576 := by rw [hx]; have := renL_len l; omega
              clear hx own4 ownb3 ownb3' rc3
              obtain ⟨g7, B7, d7, hA4, hg7, hc7, hr7⟩ := own4'.row0
              obtain ⟨g4, B4, d4, hA1, hg4, hc4, hr4⟩ := ownb4.row0
              subst hA4
              subst hA1
              have C0 : Below w4.heap.size w4 w4.drew := (Below.refl _ _).drew
              have hf7 : ∀ p : BelowOf w4, p.w.cell? ⟨g7, 0, none⟩ = some (.slice B7 x.length d7) := fun p => (p.h.cell (p := ⟨g7, 0, none⟩) hg7).trans hc7
              have hf4 : ∀ p : BelowOf w4, p.w.cell? ⟨g4, 0, none⟩ = some (.slice B4 bst.length d4) := fun p => (p.h.cell (p := ⟨g4, 0, none⟩) hg4).trans hc4
              obtain ⟨cm, hcm⟩ : ∃ cm, cm = cmpL x bst := ⟨_, rfl⟩
              have HNN : ∀ p : BelowOf w4, Calls Try.prog 84 #[.slice B7 x.length d7, .slice B4 bst.length d4] p.w (RetV p.w (.int .i64 cm)) := fun p => by
                rw [hcm]
                exact l06Numbers_any _ _ _ _ x bst _ (hr7.below p.h) (hr4.below p.h) hxl hbl.out
              have HCM := hide hcm
              have HK2 : Hid (leastOf bst x = leastL (renL ys) (triS ys a ++ [renL (turnL ys a false), renL (turnL ys a true)].take (k + 1))) := hide (by rw [HT.out, ← List.append_assoc, leastL_snoc, ← hbst.out, HX.out, HL.out])
              clear hcm hc7 hc4 hr7 hr4
              go_wp2_with fail
              refine region_below (by kernel_rfl) (by kernel_rfl) C0 ?_
              repeat (go_big_quiet_step (first | exact BelowOf.ret (HNN _)))
              refine wpQuiet_nil ?_
              rintro wq ⟨⟨wq, hq⟩, rfl⟩
              have hBq := hB4.trans (hq.mono hz4)
              have hsq := hq.size
              by_cases hneg : cm < 0
              · have HB : Hid (x = leastL (renL ys) (triS ys a ++ [renL (turnL ys a false), renL (turnL ys a true)].take (k + 1))) := hide (by rw [← HK2.out]; exact (leastOf_yes (by rw [← HCM.out]; exact hneg)).symm)
                have ownq := (own4'.below hq).mono (Nat.le_refl _) hsq
                clear hf7 hf4 HNN own4' ownb4
                go_wp2_with fail
                go_roundw
                case rel => exact ⟨k + 1, _, c4, x, by omega, by go_num, rfl, HB, ownq, hBq⟩
                case measure => simp [intOf]; omega
              · have HB : Hid (bst = leastL (renL ys) (triS ys a ++ [renL (turnL ys a false), renL (turnL ys a true)].take (k + 1))) := hide (by rw [← HK2.out]; exact (leastOf_no (by rw [← HCM.out]; exact hneg)).symm)
                have ownq := (ownb4.below hq).mono (Nat.le_refl _) hsq
                clear hf7 hf4 HNN own4' ownb4
                go_wp2_with fail
                go_roundw
                case rel => exact ⟨k + 1, _, c1, bst, by omega, by go_num, rfl, HB, ownq, hBq⟩
                case measure => simp [intOf]; omega
            · have HB : Hid (bst = leastL (renL ys) (triS ys (a + 1))) := hide (by rw [triS_next, List.append_assoc]; rw [show k = 2 by omega] at hbst; exact hbst.out)
              go_wp2_with fail
              go_roundw
              case rel => exact ⟨a + 1, A1, c1, bst, by omega, by go_num, rfl, HB, own, hB⟩
              case measure => simp [intOf]; omega
        · have HB : Hid (bst = leastR ys) := hide (by have := hbst.out; rw [show a = ys.length by omega] at this; exact this)
          go_wp2_with fail
          refine bodyPost_ret (v := .tuple #[.slice A1 1 c1, .int .i64 0]) (by simp [results, Try.results29, go_sem]) rfl ?_
          rw [HV.out, ← HB.out]
          exact ⟨A1, c1, rfl, own, hB⟩
    · have HV : Hid (leastCR code = ([], 6)) := hide (by unfold leastCR; rw [if_pos hv, if_neg h1])
      have hne : ((code.length : Int) != 1) = true := by rw [bne_iff_ne]; omega
      clear h1
      go_enter Try.func29, Try.ntmps29
      go_wp2_with fail
      refine (l14Ok_any _ _ T code _ hc hn).mono ?_
      rw [hv]
      rintro e w1 ⟨rfl, hb1⟩
      clear hv
      go_wp2_with fail
      refine bodyPost_ret (v := .tuple #[.slice none 0 0, .int .i64 6]) (by simp [results, Try.results29, go_sem]) rfl ?_
      rw [HV.out]
      exact ⟨none, 0, rfl, OwnC.nil _ _ _, hb1⟩
end Go.Proofs.Ytpgpchklmdhldaa
