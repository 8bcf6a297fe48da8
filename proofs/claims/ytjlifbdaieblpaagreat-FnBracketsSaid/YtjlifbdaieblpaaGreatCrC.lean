/-
  Contracts: the codes of a panel and a crossing, of the reference and of the program. Conditions: the lengths are far below the machine's.
-/
import Derived.Test.YtjlifbdaieblpaaGreatTr6
namespace Go.Proofs.YtjlifbdaieblpaaGreat
open Go.RowKit
set_option linter.unusedVariables false

theorem vld_sz {wd ht : Int} {xs : List Int} (h : vldPan wd ht xs = true) : Sz wd ht ∧ (xs.length : Int) = innerN wd ht := by
  obtain ⟨h1, h2, h3, h4⟩ := vldPan_true h
  obtain ⟨a1, a2⟩ := inB_true.1 h1
  obtain ⟨b1, b2⟩ := inB_true.1 h2
  exact ⟨⟨a1, a2, b1, b2⟩, h3⟩
theorem hasIdx_any (x : Int) (n : Nat) (w : World) (hn : n ≤ 1048576) : Calls Tryz.prog 61 #[.int .i64 x, .int .i64 (n : Int)] w (fun e w' => e = .returned (.bool (inB x 0 ((n : Int) - 1))) ∧ w = w') := by
  have wl : IntKind.i64.wrap ((n : Int) - 1) = (n : Int) - 1 := by rw [IntKind.wrap_i64]; omega
  go_enter Tryz.func61, Tryz.ntmps61
  go_wp2_with (go_at_call 60; refine (inRange_any _ _ _ _).mono ?_; rintro e w' ⟨rfl, rfl⟩)
  go_ret
  exact ⟨rfl, rfl⟩
/-- the number of crossings -/
def crN (xs : List Int) : Nat := (zTo xs xs.length).length
/-- the code of a panel and a crossing -/
def crC (wd ht : Int) (xs : List Int) (k : Int) : Int := if vldPan wd ht xs then (if inB k 0 ((crN xs : Int) - 1) then 0 else 2) else 1
theorem crN_le (xs : List Int) : crN xs ≤ xs.length := zTo_len _ _
theorem crC_no {wd ht : Int} {xs : List Int} (k : Int) (h : vldPan wd ht xs = false) : crC wd ht xs k = 1 := by unfold crC; rw [h]; rfl
theorem crC_rg {wd ht : Int} {xs : List Int} {k : Int} (h : vldPan wd ht xs = true) (h2 : inB k 0 ((crN xs : Int) - 1) = false) : crC wd ht xs k = 2 := by unfold crC; rw [h, h2]; rfl
theorem crC_ok {wd ht : Int} {xs : List Int} {k : Int} (h : vldPan wd ht xs = true) (h2 : inB k 0 ((crN xs : Int) - 1) = true) : crC wd ht xs k = 0 := by unfold crC; rw [h, h2]; rfl
theorem crC_zero {wd ht : Int} {xs : List Int} {k : Int} (h : crC wd ht xs k = 0) : vldPan wd ht xs = true ∧ 0 ≤ k ∧ k.toNat < crN xs := by
  unfold crC at h
  split at h
  · rename_i h1
    split at h
    · rename_i h2
      obtain ⟨g1, g2⟩ := inB_true.1 h2
      exact ⟨h1, g1, by omega⟩
    · omega
  · omega

set_option maxHeartbeats 2000000 in
theorem crossingNumberCode_any (wd ht : Int) (A : Option Addr) (c : Nat) (xs : List Int) (k : Int) (w : World) (hxs : RI w A xs) (hn : xs.length ≤ 1048576) :
    Calls Tryz.prog 40 #[.agg #[.int .i64 wd, .int .i64 ht, .slice A xs.length c], .int .i64 k] w (RetV w (.int .i64 (crC wd ht xs k))) := by
  have HOK := hide (fun (W : World) (h : RI W A xs) => validPanel_any wd ht A c xs W h hn)
  have HALL := hide (fun (W : World) (h : RI W A xs) => crossingNumbers_any wd ht A c xs W h hn)
  have hcn := crN_le xs
  have hcn2 : crN xs ≤ 1048576 := by omega
  have HCN : Hid ((zTo xs xs.length).length = crN xs) := hide rfl
  cases hv : vldPan wd ht xs
  · have HV := hide (crC_no k hv)
    obtain ⟨pa_x1, pb_x1, pc_x1⟩ := (Bx.new_ w (w.heap.size) 26 #[.int .i64 wd, .int .i64 ht, .slice A xs.length c] (by simp)).three
    go_enter Tryz.func40, Tryz.ntmps40
    go_wp2_with fail
    refine ((HOK.out _ (hxs.below ((Below.refl w.heap.size w).alloc (by first | omega | (simp; omega) | simp) (.cells #[.int .i64 wd, .int .i64 ht, .slice A xs.length c] 26))))).mono ?_
    rintro e w1 ⟨rfl, hb1⟩
    have p_1 := (Bx.new_ w (w.heap.size) 26 #[.int .i64 wd, .int .i64 ht, .slice A xs.length c] (by simp)).below hb1
    obtain ⟨pa_1, pb_1, pc_1⟩ := (p_1).three
    have z_1 : (w.alloc (.cells #[.int .i64 wd, .int .i64 ht, .slice A xs.length c] 26)).heap.size ≤ w1.heap.size := hb1.size
    simp only [World.size_alloc] at z_1
    have B_1 := ((Below.refl w.heap.size w).alloc (by first | omega | (simp; omega) | simp) (.cells #[.int .i64 wd, .int .i64 ht, .slice A xs.length c] 26)).trans (hb1.mono (by first | omega | (simp; omega) | simp))
    rw [hv]
    go_wp2_with fail
    go_ret
    rw [HV.out]
    exact ⟨rfl, (B_1)⟩
  · cases hk : inB k 0 ((crN xs : Int) - 1)
    · have HV := hide (crC_rg hv hk)
      obtain ⟨pa_x1, pb_x1, pc_x1⟩ := (Bx.new_ w (w.heap.size) 26 #[.int .i64 wd, .int .i64 ht, .slice A xs.length c] (by simp)).three
      go_enter Tryz.func40, Tryz.ntmps40
      go_wp2_with fail
      refine ((HOK.out _ (hxs.below ((Below.refl w.heap.size w).alloc (by first | omega | (simp; omega) | simp) (.cells #[.int .i64 wd, .int .i64 ht, .slice A xs.length c] 26))))).mono ?_
      rintro e w1 ⟨rfl, hb1⟩
      have p_1 := (Bx.new_ w (w.heap.size) 26 #[.int .i64 wd, .int .i64 ht, .slice A xs.length c] (by simp)).below hb1
      obtain ⟨pa_1, pb_1, pc_1⟩ := (p_1).three
      have z_1 : (w.alloc (.cells #[.int .i64 wd, .int .i64 ht, .slice A xs.length c] 26)).heap.size ≤ w1.heap.size := hb1.size
      simp only [World.size_alloc] at z_1
      have B_1 := ((Below.refl w.heap.size w).alloc (by first | omega | (simp; omega) | simp) (.cells #[.int .i64 wd, .int .i64 ht, .slice A xs.length c] 26)).trans (hb1.mono (by first | omega | (simp; omega) | simp))
      rw [hv]
      go_wp2_with fail
      refine (HALL.out _ (hxs.below (B_1))).mono ?_
      rintro e w2 ⟨A2, c2, rfl, _, hb2⟩
      have p_2 := (p_1).below hb2
      obtain ⟨pa_2, pb_2, pc_2⟩ := (p_2).three
      have z_2 : w1.heap.size ≤ w2.heap.size := hb2.size
      have B_2 := (B_1).trans (hb2.mono (by first | omega | (simp; omega) | simp))
      rw [HCN.out]
      go_wp2_with (go_at_call 61; refine (hasIdx_any _ _ _ hcn2).mono ?_; rintro e w' ⟨rfl, rfl⟩; rw [hk])
      go_ret
      rw [HV.out]
      exact ⟨rfl, (B_2)⟩
    · have HV := hide (crC_ok hv hk)
      obtain ⟨pa_x1, pb_x1, pc_x1⟩ := (Bx.new_ w (w.heap.size) 26 #[.int .i64 wd, .int .i64 ht, .slice A xs.length c] (by simp)).three
      go_enter Tryz.func40, Tryz.ntmps40
      go_wp2_with fail
      refine ((HOK.out _ (hxs.below ((Below.refl w.heap.size w).alloc (by first | omega | (simp; omega) | simp) (.cells #[.int .i64 wd, .int .i64 ht, .slice A xs.length c] 26))))).mono ?_
      rintro e w1 ⟨rfl, hb1⟩
      have p_1 := (Bx.new_ w (w.heap.size) 26 #[.int .i64 wd, .int .i64 ht, .slice A xs.length c] (by simp)).below hb1
      obtain ⟨pa_1, pb_1, pc_1⟩ := (p_1).three
      have z_1 : (w.alloc (.cells #[.int .i64 wd, .int .i64 ht, .slice A xs.length c] 26)).heap.size ≤ w1.heap.size := hb1.size
      simp only [World.size_alloc] at z_1
      have B_1 := ((Below.refl w.heap.size w).alloc (by first | omega | (simp; omega) | simp) (.cells #[.int .i64 wd, .int .i64 ht, .slice A xs.length c] 26)).trans (hb1.mono (by first | omega | (simp; omega) | simp))
      rw [hv]
      go_wp2_with fail
      refine (HALL.out _ (hxs.below (B_1))).mono ?_
      rintro e w2 ⟨A2, c2, rfl, _, hb2⟩
      have p_2 := (p_1).below hb2
      obtain ⟨pa_2, pb_2, pc_2⟩ := (p_2).three
      have z_2 : w1.heap.size ≤ w2.heap.size := hb2.size
      have B_2 := (B_1).trans (hb2.mono (by first | omega | (simp; omega) | simp))
      rw [HCN.out]
      go_wp2_with (go_at_call 61; refine (hasIdx_any _ _ _ hcn2).mono ?_; rintro e w' ⟨rfl, rfl⟩; rw [hk])
      go_ret
      rw [HV.out]
      exact ⟨rfl, (B_2)⟩
end Go.Proofs.YtjlifbdaieblpaaGreat
