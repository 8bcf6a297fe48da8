/-
  Contracts: SignOf, SignsOf, WritheOf, DirectionsAt, of the reference and of the program. Conditions: the lengths are far below the machine's.
-/
import Derived.Test.YtmjeafklafjakaaTr13
import Derived.Test.YtmjeafklafjakaaRetE
import Derived.Test.YtmjeafklafjakaaCrC
namespace Go.Proofs.Ytmjeafklafjakaa
open Go.RowKit
set_option linter.unusedVariables false

noncomputable def signR (wd ht : Int) (xs : List Int) (k : Int) : Int × Int := if crC wd ht xs k = 0 then ((sgL wd ht xs).getD k.toNat 0, 0) else (0, crC wd ht xs k)
theorem signR_ok {wd ht : Int} {xs : List Int} {K : Nat} {v : Int} (h : crC wd ht xs (K : Int) = 0) (hv : (sgL wd ht xs)[K]? = some v) : signR wd ht xs (K : Int) = (v, 0) := by
  unfold signR
  rw [if_pos h, Int.toNat_natCast, List.getD_eq_getElem?_getD, hv]
  rfl
theorem signR_no {wd ht : Int} {xs : List Int} {k : Int} (h : ¬ crC wd ht xs k = 0) : signR wd ht xs k = (0, crC wd ht xs k) := by
  unfold signR
  rw [if_neg h]
noncomputable def signsR (wd ht : Int) (xs : List Int) : List Int × Int := if vldPan wd ht xs then (sgL wd ht xs, 0) else ([], 1)
noncomputable def writheR (wd ht : Int) (xs : List Int) : Int × Int := if vldPan wd ht xs then (sumW (sgL wd ht xs), 0) else (0, 1)
theorem signsR_ok {wd ht : Int} {xs : List Int} (h : vldPan wd ht xs = true) : signsR wd ht xs = (sgL wd ht xs, 0) := by unfold signsR; rw [if_pos h]
theorem signsR_no {wd ht : Int} {xs : List Int} (h : vldPan wd ht xs = false) : signsR wd ht xs = ([], 1) := by unfold signsR; rw [if_neg (by rw [h]; simp)]
theorem writheR_ok {wd ht : Int} {xs : List Int} (h : vldPan wd ht xs = true) : writheR wd ht xs = (sumW (sgL wd ht xs), 0) := by unfold writheR; rw [if_pos h]
theorem writheR_no {wd ht : Int} {xs : List Int} (h : vldPan wd ht xs = false) : writheR wd ht xs = (0, 1) := by unfold writheR; rw [if_neg (by rw [h]; simp)]

theorem signsR_len (wd ht : Int) (xs : List Int) (hn : xs.length ≤ 1048576) : (signsR wd ht xs).1.length ≤ 1048576 := by
  cases hv : vldPan wd ht xs
  · rw [signsR_no hv]; simp
  · obtain ⟨hs, hl⟩ := vld_sz hv
    rw [signsR_ok hv]
    show (sgL wd ht xs).length ≤ 1048576
    rw [sgL_len hs hl]
    exact Nat.le_trans (crN_le xs) hn

set_option maxHeartbeats 2000000 in
theorem implSignOf_any (wd ht : Int) (A : Option Addr) (c : Nat) (xs : List Int) (k : Int) (w : World) (hxs : RI w A xs) (hcap : xs.length ≤ c ∧ c ≤ 9223372036854775807) (hn : xs.length ≤ 1048576) :
    Calls Try.prog 14 #[.agg #[.int .i64 wd, .int .i64 ht, .slice A xs.length c], .int .i64 k] w (RetV w (.tuple #[.int .i64 (signR wd ht xs k).1, .int .i64 (signR wd ht xs k).2])) := by
  obtain ⟨pa_x1, pb_x1, pc_x1⟩ := (Bx.new_ w (w.heap.size) 26 #[.int .i64 wd, .int .i64 ht, .slice A xs.length c] (by simp)).three
  have HCODE := hide (fun k => crossingNumberCode_any wd ht A c xs k (w.alloc (.cells #[.int .i64 wd, .int .i64 ht, .slice A xs.length c] 26)) (hxs.below ((Below.refl w.heap.size w).alloc (by first | omega | (simp; omega) | simp) (.cells #[.int .i64 wd, .int .i64 ht, .slice A xs.length c] 26))) hn)
  by_cases h0 : crC wd ht xs k = 0
  · obtain ⟨hv, hk0, hk1⟩ := crC_zero h0
    obtain ⟨hs, hl⟩ := vld_sz hv
    obtain ⟨K, rfl⟩ : ∃ K : Nat, k = (K : Int) := ⟨k.toNat, by omega⟩
    rw [Int.toNat_natCast] at hk1
    have hlen := sgL_len (xs := xs) hs hl
    obtain ⟨v, hvv⟩ : ∃ v, (sgL wd ht xs)[K]? = some v := ⟨_, List.getElem?_eq_getElem (by rw [hlen]; exact hk1)⟩
    have HR := hide (signR_ok h0 hvv)
    have HVV := hide hvv
    have HC0 := hide h0
    have HL2 : Hid (K < (sgL wd ht xs).length) := hide (by rw [hlen]; exact hk1)
    have hl3 : (sgL wd ht xs).length ≤ 1048576 := by rw [hlen]; have := crN_le xs; unfold crN at this; omega
    clear h0 hvv hlen hk0 hk1
    go_enter Try.func14, Try.ntmps14
    go_wp2_with fail
    refine ((HCODE.out _)).mono ?_
    rintro e w1 ⟨rfl, hb1⟩
    have p_1 := (Bx.new_ w (w.heap.size) 26 #[.int .i64 wd, .int .i64 ht, .slice A xs.length c] (by simp)).below hb1
    obtain ⟨pa_1, pb_1, pc_1⟩ := (p_1).three
    have z_1 : (w.alloc (.cells #[.int .i64 wd, .int .i64 ht, .slice A xs.length c] 26)).heap.size ≤ w1.heap.size := hb1.size
    simp only [World.size_alloc] at z_1
    have B_1 := ((Below.refl w.heap.size w).alloc (by first | omega | (simp; omega) | simp) (.cells #[.int .i64 wd, .int .i64 ht, .slice A xs.length c] 26)).trans (hb1.mono (by first | omega | (simp; omega) | simp))
    rw [HC0.out]
    go_wp2_with fail
    refine (signs_any wd ht A c xs _ (hxs.below (B_1)) hcap hs hl hn).mono ?_
    rintro e w2 ⟨A2, c2, rfl, own, hb2⟩
    have p_2 := (p_1).below hb2
    obtain ⟨pa_2, pb_2, pc_2⟩ := (p_2).three
    have z_2 : w1.heap.size ≤ w2.heap.size := hb2.size
    have B_2 := (B_1).trans (hb2.mono (by first | omega | (simp; omega) | simp))
    obtain ⟨g, v', rfl, _, _, hv', hgc, _, _⟩ := own.at_ (k := K) HL2.out
    obtain rfl : v = v' := by have h := HVV.out; rw [hv'] at h; injection h with h; exact h.symm
    have hkl := HL2.out
    clear hv'
    go_wp2_with fail
    go_ret2
    rw [HR.out]
    exact ⟨rfl, (B_2)⟩
  ·
    have HR := hide (signR_no h0)
    obtain ⟨v, hvv⟩ : ∃ v, v = crC wd ht xs k := ⟨_, rfl⟩
    rw [← hvv] at HR h0
    have HVV := hide hvv
    have d0 : (v != 0) = true := by simpa using h0
    clear h0 hvv
    go_enter Try.func14, Try.ntmps14
    go_wp2_with fail
    refine ((HCODE.out _)).mono ?_
    rintro e w3 ⟨rfl, hb3⟩
    have p_3 := (Bx.new_ w (w.heap.size) 26 #[.int .i64 wd, .int .i64 ht, .slice A xs.length c] (by simp)).below hb3
    obtain ⟨pa_3, pb_3, pc_3⟩ := (p_3).three
    have z_3 : (w.alloc (.cells #[.int .i64 wd, .int .i64 ht, .slice A xs.length c] 26)).heap.size ≤ w3.heap.size := hb3.size
    simp only [World.size_alloc] at z_3
    have B_3 := ((Below.refl w.heap.size w).alloc (by first | omega | (simp; omega) | simp) (.cells #[.int .i64 wd, .int .i64 ht, .slice A xs.length c] 26)).trans (hb3.mono (by first | omega | (simp; omega) | simp))
    rw [← HVV.out]
    go_wp2_with fail
    go_ret2
    rw [HR.out]
    exact ⟨rfl, (B_3)⟩
set_option maxHeartbeats 2000000 in
theorem implSignsOf_any (wd ht : Int) (A : Option Addr) (c : Nat) (xs : List Int) (w : World) (hxs : RI w A xs) (hcap : xs.length ≤ c ∧ c ≤ 9223372036854775807) (hn : xs.length ≤ 1048576) :
    Calls Try.prog 7 #[.agg #[.int .i64 wd, .int .i64 ht, .slice A xs.length c]] w (RetIC w (signsR wd ht xs).1 (signsR wd ht xs).2) := by
  obtain ⟨pa_x1, pb_x1, pc_x1⟩ := (Bx.new_ w (w.heap.size) 26 #[.int .i64 wd, .int .i64 ht, .slice A xs.length c] (by simp)).three
  have HOK := hide (validPanel_any wd ht A c xs (w.alloc (.cells #[.int .i64 wd, .int .i64 ht, .slice A xs.length c] 26)) (hxs.below ((Below.refl w.heap.size w).alloc (by first | omega | (simp; omega) | simp) (.cells #[.int .i64 wd, .int .i64 ht, .slice A xs.length c] 26))) hn)
  cases hv : vldPan wd ht xs
  ·
    have HR := hide (signsR_no hv)
    go_enter Try.func7, Try.ntmps7
    go_wp2_with fail
    refine (HOK.out).mono ?_
    rintro e w1 ⟨rfl, hb1⟩
    have p_1 := (Bx.new_ w (w.heap.size) 26 #[.int .i64 wd, .int .i64 ht, .slice A xs.length c] (by simp)).below hb1
    obtain ⟨pa_1, pb_1, pc_1⟩ := (p_1).three
    have z_1 : (w.alloc (.cells #[.int .i64 wd, .int .i64 ht, .slice A xs.length c] 26)).heap.size ≤ w1.heap.size := hb1.size
    simp only [World.size_alloc] at z_1
    have B_1 := ((Below.refl w.heap.size w).alloc (by first | omega | (simp; omega) | simp) (.cells #[.int .i64 wd, .int .i64 ht, .slice A xs.length c] 26)).trans (hb1.mono (by first | omega | (simp; omega) | simp))
    rw [hv]
    go_wp2_with fail
    go_ret2
    rw [HR.out]
    exact ⟨none, 0, rfl, OwnI.nil _ _, (B_1)⟩
  ·
    have HR := hide (signsR_ok hv)
    obtain ⟨hs, hl⟩ := vld_sz hv
    go_enter Try.func7, Try.ntmps7
    go_wp2_with fail
    refine (HOK.out).mono ?_
    rintro e w2 ⟨rfl, hb2⟩
    have p_2 := (Bx.new_ w (w.heap.size) 26 #[.int .i64 wd, .int .i64 ht, .slice A xs.length c] (by simp)).below hb2
    obtain ⟨pa_2, pb_2, pc_2⟩ := (p_2).three
    have z_2 : (w.alloc (.cells #[.int .i64 wd, .int .i64 ht, .slice A xs.length c] 26)).heap.size ≤ w2.heap.size := hb2.size
    simp only [World.size_alloc] at z_2
    have B_2 := ((Below.refl w.heap.size w).alloc (by first | omega | (simp; omega) | simp) (.cells #[.int .i64 wd, .int .i64 ht, .slice A xs.length c] 26)).trans (hb2.mono (by first | omega | (simp; omega) | simp))
    rw [hv]
    go_wp2_with fail
    refine (signs_any wd ht A c xs _ (hxs.below (B_2)) hcap hs hl hn).mono ?_
    rintro e w3 ⟨A2, c2, rfl, own, hb3⟩
    have p_3 := (p_2).below hb3
    obtain ⟨pa_3, pb_3, pc_3⟩ := (p_3).three
    have z_3 : w2.heap.size ≤ w3.heap.size := hb3.size
    have B_3 := (B_2).trans (hb3.mono (by first | omega | (simp; omega) | simp))
    have hz := z_2
    have hz3 := z_3
    go_wp2_with fail
    go_ret2
    rw [HR.out]
    exact ⟨A2, c2, rfl, own.mono (by omega), (B_3)⟩
set_option maxHeartbeats 2000000 in
theorem implWritheOf_any (wd ht : Int) (A : Option Addr) (c : Nat) (xs : List Int) (w : World) (hxs : RI w A xs) (hcap : xs.length ≤ c ∧ c ≤ 9223372036854775807) (hn : xs.length ≤ 1048576) :
    Calls Try.prog 8 #[.agg #[.int .i64 wd, .int .i64 ht, .slice A xs.length c]] w (RetV w (.tuple #[.int .i64 (writheR wd ht xs).1, .int .i64 (writheR wd ht xs).2])) := by
  obtain ⟨pa_x1, pb_x1, pc_x1⟩ := (Bx.new_ w (w.heap.size) 26 #[.int .i64 wd, .int .i64 ht, .slice A xs.length c] (by simp)).three
  have HOK := hide (validPanel_any wd ht A c xs (w.alloc (.cells #[.int .i64 wd, .int .i64 ht, .slice A xs.length c] 26)) (hxs.below ((Below.refl w.heap.size w).alloc (by first | omega | (simp; omega) | simp) (.cells #[.int .i64 wd, .int .i64 ht, .slice A xs.length c] 26))) hn)
  cases hv : vldPan wd ht xs
  ·
    have HR := hide (writheR_no hv)
    go_enter Try.func8, Try.ntmps8
    go_wp2_with fail
    refine (HOK.out).mono ?_
    rintro e w1 ⟨rfl, hb1⟩
    have p_1 := (Bx.new_ w (w.heap.size) 26 #[.int .i64 wd, .int .i64 ht, .slice A xs.length c] (by simp)).below hb1
    obtain ⟨pa_1, pb_1, pc_1⟩ := (p_1).three
    have z_1 : (w.alloc (.cells #[.int .i64 wd, .int .i64 ht, .slice A xs.length c] 26)).heap.size ≤ w1.heap.size := hb1.size
    simp only [World.size_alloc] at z_1
    have B_1 := ((Below.refl w.heap.size w).alloc (by first | omega | (simp; omega) | simp) (.cells #[.int .i64 wd, .int .i64 ht, .slice A xs.length c] 26)).trans (hb1.mono (by first | omega | (simp; omega) | simp))
    rw [hv]
    go_wp2_with fail
    go_ret2
    rw [HR.out]
    exact ⟨rfl, (B_1)⟩
  ·
    have HR := hide (writheR_ok hv)
    obtain ⟨hs, hl⟩ := vld_sz hv
    have hl3 : (sgL wd ht xs).length ≤ 1048576 := by rw [sgL_len (xs := xs) hs hl]; have := crN_le xs; unfold crN at this; omega
    go_enter Try.func8, Try.ntmps8
    go_wp2_with fail
    refine (HOK.out).mono ?_
    rintro e w2 ⟨rfl, hb2⟩
    have p_2 := (Bx.new_ w (w.heap.size) 26 #[.int .i64 wd, .int .i64 ht, .slice A xs.length c] (by simp)).below hb2
    obtain ⟨pa_2, pb_2, pc_2⟩ := (p_2).three
    have z_2 : (w.alloc (.cells #[.int .i64 wd, .int .i64 ht, .slice A xs.length c] 26)).heap.size ≤ w2.heap.size := hb2.size
    simp only [World.size_alloc] at z_2
    have B_2 := ((Below.refl w.heap.size w).alloc (by first | omega | (simp; omega) | simp) (.cells #[.int .i64 wd, .int .i64 ht, .slice A xs.length c] 26)).trans (hb2.mono (by first | omega | (simp; omega) | simp))
    rw [hv]
    go_wp2_with fail
    refine (signs_any wd ht A c xs _ (hxs.below (B_2)) hcap hs hl hn).mono ?_
    rintro e w3 ⟨A2, c2, rfl, own, hb3⟩
    have p_3 := (p_2).below hb3
    obtain ⟨pa_3, pb_3, pc_3⟩ := (p_3).three
    have z_3 : w2.heap.size ≤ w3.heap.size := hb3.size
    have B_3 := (B_2).trans (hb3.mono (by first | omega | (simp; omega) | simp))
    have hr := own.rd
    clear own
    go_wp2_with fail
    refine (sumOf_any A2 c2 _ _ hr hl3).mono ?_
    rintro e w4 ⟨rfl, rfl⟩
    go_wp2_with fail
    go_ret2
    rw [HR.out]
    exact ⟨rfl, (B_3)⟩
end Go.Proofs.Ytmjeafklafjakaa
