/-
  Contracts: numbers of curves, the walker with which a curve begins. Conditions: a valid panel's sides and breaks.
-/
import Derived.Test.YtmjeafklafjakaaTr9
namespace Go.Proofs.Ytmjeafklafjakaa
open Go.RowKit
set_option linter.unusedVariables false

theorem l04Count_any (b0 : Nat) (wd ht : Int) (A : Option Addr) (c : Nat) (xs : List Int) (w : World) (hp : PA w b0 wd ht A c xs) (hs : Sz wd ht) (hl : (xs.length : Int) = innerN wd ht) :
    Calls Try.prog 31 #[.pointer (some ⟨b0, 0, none⟩)] w (RetV w (.int .i64 ((curL wd ht xs).length : Int))) := by
  have hcl : (curL wd ht xs).length ≤ 256 := by have h1 := (trInv_all (xs := xs) hs).cnt; have h2 := nSeg_int hs; simp only at h1; omega
  have HA := hide (l04All_any b0 wd ht A c xs w hp hs hl)
  go_enter Try.func31, Try.ntmps31
  go_wp2_with fail
  refine HA.out.mono ?_
  rintro e w1 ⟨A1, c1, B1, d1, rfl, own, hb1⟩
  go_wp2_with fail
  go_ret
  exact ⟨rfl, hb1⟩
theorem countCurves_any (wd ht : Int) (A : Option Addr) (c : Nat) (xs : List Int) (w : World) (hxs : RI w A xs) (hs : Sz wd ht) (hl : (xs.length : Int) = innerN wd ht) :
    Calls Try.prog 49 #[.agg #[.int .i64 wd, .int .i64 ht, .slice A xs.length c]] w (RetV w (.int .i64 ((curL wd ht xs).length : Int))) := by
  have hcl : (curL wd ht xs).length ≤ 256 := by have h1 := (trInv_all (xs := xs) hs).cnt; have h2 := nSeg_int hs; simp only at h1; omega
  obtain ⟨pa_x1, pb_x1, pc_x1⟩ := (Bx.new_ w (w.heap.size) 26 #[.int .i64 wd, .int .i64 ht, .slice A xs.length c] (by simp)).three
  have HA := hide (trace_any wd ht A c xs (w.alloc (.cells #[.int .i64 wd, .int .i64 ht, .slice A xs.length c] 26)) (hxs.below ((Below.refl w.heap.size w).alloc (by first | omega | (simp; omega) | simp) (.cells #[.int .i64 wd, .int .i64 ht, .slice A xs.length c] 26))) hs hl)
  go_enter Try.func49, Try.ntmps49
  go_wp2_with fail
  refine HA.out.mono ?_
  rintro e w1 ⟨A1, c1, B1, d1, hs, rfl, h1, h2, h3, hb1⟩
  have hB1 := (((Below.refl w.heap.size w).alloc (by first | omega | (simp; omega) | simp) (.cells #[.int .i64 wd, .int .i64 ht, .slice A xs.length c] 26))).trans (hb1.mono (by simp))
  have HR := hide h2.len
  have hhl : hs.length ≤ 256 := by rw [HR.out]; exact hcl
  clear h1 h2 h3
  go_wp2_with fail
  go_ret
  exact ⟨ret_int (by rw [HR.out]), hB1⟩

end Go.Proofs.Ytmjeafklafjakaa
