/-
  Contracts: smoothing of a crossing. Conditions: a valid panel's sides and breaks.
-/
import Derived.Test.YtjlifbdaieblpaaGreatSm3
import Derived.Test.YtjlifbdaieblpaaGreatCrC
namespace Go.Proofs.YtjlifbdaieblpaaGreat
open Go.RowKit
set_option linter.unusedVariables false

/-- the kind of a break that smooths a crossing with the first number x -/
def kdB (x : Int) (b : Bool) : Int := if decide (x % 2 = 1) = b then 1 else 2
theorem kdB_one {x : Int} {b : Bool} (h : decide (x % 2 = 1) = b) : kdB x b = 1 := by unfold kdB; rw [if_pos h]
theorem kdB_two {x : Int} {b : Bool} (h : ¬ decide (x % 2 = 1) = b) : kdB x b = 2 := by unfold kdB; rw [if_neg h]

theorem l18Kind_any (x y : Int) (b : Bool) (w : World) (hx : 0 ≤ x ∧ x ≤ 1000) : Calls Tryz.prog 65 #[.agg #[.int .i64 x, .int .i64 y], .bool b] w (RetV w (.int .i64 (kdB x b))) := by
  obtain ⟨h0, h1⟩ := hx
  have t1 : Int.tmod x 2 = x % 2 := Int.tmod_eq_emod_of_nonneg h0
  by_cases ho : x % 2 = 1
  · cases b
    · have HK := hide (kdB_two (x := x) (b := false) (by simp [ho]))
      obtain ⟨pa_x1, pb_x1⟩ := (Bx.new_ w (w.heap.size) 77 #[.int .i64 x, .int .i64 y] (by simp)).two
      go_enter Tryz.func65, Tryz.ntmps65
      go_wp2_with fail
      go_ret
      rw [HK.out]
      exact ⟨rfl, ((Below.refl w.heap.size w).alloc (by first | omega | (simp; omega) | simp) (.cells #[.int .i64 x, .int .i64 y] 77))⟩
    · have HK := hide (kdB_one (x := x) (b := true) (by simp [ho]))
      obtain ⟨pa_x1, pb_x1⟩ := (Bx.new_ w (w.heap.size) 77 #[.int .i64 x, .int .i64 y] (by simp)).two
      go_enter Tryz.func65, Tryz.ntmps65
      go_wp2_with fail
      go_ret
      rw [HK.out]
      exact ⟨rfl, ((Below.refl w.heap.size w).alloc (by first | omega | (simp; omega) | simp) (.cells #[.int .i64 x, .int .i64 y] 77))⟩
  · have ho2 : x % 2 = 0 := by omega
    cases b
    · have HK := hide (kdB_one (x := x) (b := false) (by simp [ho]))
      obtain ⟨pa_x1, pb_x1⟩ := (Bx.new_ w (w.heap.size) 77 #[.int .i64 x, .int .i64 y] (by simp)).two
      go_enter Tryz.func65, Tryz.ntmps65
      go_wp2_with fail
      go_ret
      rw [HK.out]
      exact ⟨rfl, ((Below.refl w.heap.size w).alloc (by first | omega | (simp; omega) | simp) (.cells #[.int .i64 x, .int .i64 y] 77))⟩
    · have HK := hide (kdB_two (x := x) (b := true) (by simp [ho]))
      obtain ⟨pa_x1, pb_x1⟩ := (Bx.new_ w (w.heap.size) 77 #[.int .i64 x, .int .i64 y] (by simp)).two
      go_enter Tryz.func65, Tryz.ntmps65
      go_wp2_with fail
      go_ret
      rw [HK.out]
      exact ⟨rfl, ((Below.refl w.heap.size w).alloc (by first | omega | (simp; omega) | simp) (.cells #[.int .i64 x, .int .i64 y] 77))⟩

set_option maxHeartbeats 4000000 in
theorem smoothed_any (wd ht : Int) (A : Option Addr) (c : Nat) (xs : List Int) (k : Nat) (b : Bool) (w : World) (hxs : RI w A xs) (hn : xs.length ≤ 1048576) (hs : Sz wd ht) (hl : (xs.length : Int) = innerN wd ht) (hk : k < xs.length) :
    Calls Tryz.prog 41 #[.agg #[.int .i64 wd, .int .i64 ht, .slice A xs.length c], .int .i64 (k : Int), .bool b] w (RetPan w wd ht (xs.set k (kdB (pntX wd k) b))) := by
  obtain ⟨_, _, _, _, hx1, hx2⟩ := pnt_facts hs (k := k) (by omega)
  obtain ⟨s1, s2, s3, s4⟩ := id hs
  have hin : k ≤ 1000 := by
    unfold innerN at hl
    rcases eight s1 s2 with rfl | rfl | rfl | rfl | rfl | rfl | rfl | rfl <;> omega
  have HPT := hide (ptsN_at (wd := wd) hk)
  obtain ⟨X, hX⟩ : ∃ X, X = pntX wd k := ⟨_, rfl⟩
  have HXX := hide hX
  rw [← hX] at hx1 hx2
  have t1 : Int.tmod X 2 = X % 2 := Int.tmod_eq_emod_of_nonneg (by omega)
  rw [← hX]
  have HPL := hide (ptsN_len wd xs.length)
  clear hX
  obtain ⟨pa_x1, pb_x1, pc_x1⟩ := ((Bx.new_ w (w.heap.size) 26 #[.int .i64 wd, .int .i64 ht, .slice A xs.length c] (by simp)).alloc (.cells #[.int .i64 0, .int .i64 0, .slice none 0 0] 26)).three
  obtain ⟨ra_x1, rb_x1, rc_x1⟩ := (Bx.new_ (w.alloc (.cells #[.int .i64 wd, .int .i64 ht, .slice A xs.length c] 26)) (w.heap.size + 1) 26 #[.int .i64 0, .int .i64 0, .slice none 0 0] (by simp)).three
  have rf0_x1 := (Bx.new_ (w.alloc (.cells #[.int .i64 wd, .int .i64 ht, .slice A xs.length c] 26)) (w.heap.size + 1) 26 #[.int .i64 0, .int .i64 0, .slice none 0 0] (by simp)).frozen 0
  have rf1_x1 := (Bx.new_ (w.alloc (.cells #[.int .i64 wd, .int .i64 ht, .slice A xs.length c] 26)) (w.heap.size + 1) 26 #[.int .i64 0, .int .i64 0, .slice none 0 0] (by simp)).frozen 1
  have rf2_x1 := (Bx.new_ (w.alloc (.cells #[.int .i64 wd, .int .i64 ht, .slice A xs.length c] 26)) (w.heap.size + 1) 26 #[.int .i64 0, .int .i64 0, .slice none 0 0] (by simp)).frozen 2
  have HPS := hide (points_any wd ht A c xs ((w.alloc (.cells #[.int .i64 wd, .int .i64 ht, .slice A xs.length c] 26)).alloc (.cells #[.int .i64 0, .int .i64 0, .slice none 0 0] 26)) hs hl)
  have HCH := hide (fun (W : World) (h : RI W A xs) (kd : Int) => changed_any wd ht A c xs k kd W h hn hk)
  clear hs hl
  by_cases hk1 : decide (X % 2 = 1) = b
  · have HK := hide (kdB_one hk1)
    have hK2 : (decide (X % 2 = 1) == b) = true := by rw [hk1]; simp
    have hK3 : ((X % 2 == 1) == b) = true := by rw [← hK2]; rfl
    go_enter Tryz.func41, Tryz.ntmps41
    go_wp2_with fail
    refine HPS.out.mono ?_
    rintro e w1 ⟨A1, c1, rfl, own, hb1⟩
    have p_1 := ((Bx.new_ w (w.heap.size) 26 #[.int .i64 wd, .int .i64 ht, .slice A xs.length c] (by simp)).alloc (.cells #[.int .i64 0, .int .i64 0, .slice none 0 0] 26)).below hb1
    obtain ⟨pa_1, pb_1, pc_1⟩ := (p_1).three
    have r_1 := (Bx.new_ (w.alloc (.cells #[.int .i64 wd, .int .i64 ht, .slice A xs.length c] 26)) (w.heap.size + 1) 26 #[.int .i64 0, .int .i64 0, .slice none 0 0] (by simp)).below hb1
    obtain ⟨ra_1, rb_1, rc_1⟩ := (r_1).three
    have rf0_1 := (r_1).frozen 0
    have rf1_1 := (r_1).frozen 1
    have rf2_1 := (r_1).frozen 2
    have z_1 : ((w.alloc (.cells #[.int .i64 wd, .int .i64 ht, .slice A xs.length c] 26)).alloc (.cells #[.int .i64 0, .int .i64 0, .slice none 0 0] 26)).heap.size ≤ w1.heap.size := hb1.size
    simp only [World.size_alloc] at z_1
    have B_1 := (((Below.refl w.heap.size w).alloc (by first | omega | (simp; omega) | simp) (.cells #[.int .i64 wd, .int .i64 ht, .slice A xs.length c] 26)).alloc (by first | omega | (simp; omega) | simp) (.cells #[.int .i64 0, .int .i64 0, .slice none 0 0] 26)).trans (hb1.mono (by first | omega | (simp; omega) | simp))
    have hlen : (ptsN wd xs.length).length = xs.length := HPL.out
    obtain ⟨g, pt, rfl, hgb, hgs, hpt, hcl, hfr⟩ := own.row (k := k) (by rw [hlen]; exact hk)
    have he : pt = (X, pntY wd k) := by
      have h := HPT.out
      rw [hpt] at h
      rw [HXX.out]
      exact Option.some.inj h
    subst he
    have hc0 := hcl 0 (.int .i64 X) rfl
    have hc1 := hcl 1 (.int .i64 (pntY wd k)) rfl
    have hc00 : w1.cell? ⟨g, k * 2, none⟩ = some (.int .i64 X) := hc0
    have hc11 : w1.cell? ⟨g, k * 2 + 1, none⟩ = some (.int .i64 (pntY wd k)) := hc1
    have hlt : k < (ptsN wd xs.length).length := by rw [hlen]; exact hk
    have hlb : (ptsN wd xs.length).length ≤ 1048576 := by rw [hlen]; exact hn
    have HC2 := hide (HCH.out _ (hxs.below (B_1)) 1)
    clear own hcl hpt hc0 hc1 hfr
    go_wp2_with fail
    refine HC2.out.mono ?_
    rintro e w2 ⟨A2, c2, rfl, own2, hb2⟩
    have p_2 := (p_1).below hb2
    obtain ⟨pa_2, pb_2, pc_2⟩ := (p_2).three
    have r_2 := (r_1).below hb2
    obtain ⟨ra_2, rb_2, rc_2⟩ := (r_2).three
    have rf0_2 := (r_2).frozen 0
    have rf1_2 := (r_2).frozen 1
    have rf2_2 := (r_2).frozen 2
    have z_2 : w1.heap.size ≤ w2.heap.size := hb2.size
    have B_2 := (B_1).trans (hb2.mono (by first | omega | (simp; omega) | simp))
    have r3 := (r_2).put3 (u0 := .int .i64 wd) (u1 := .int .i64 ht) (u2 := .slice A2 xs.length c2)
    have HRQ := hide r3.three
    have hzz := (r_1).lt
    have OWN := hide ((own2.far3 (b := w.heap.size + 1) (o0 := 0) (o1 := 1) (o2 := 2) (u0 := .int .i64 wd) (u1 := .int .i64 ht) (u2 := .slice A2 xs.length c2) (fun g' hg' => by have := (own2.ge hg').1; omega)).mono (show w.heap.size ≤ _ by omega))
    have HB := hide (below_put3 (b := w.heap.size + 1) (o0 := 0) (o1 := 1) (o2 := 2) (u0 := .int .i64 wd) (u1 := .int .i64 ht) (u2 := .slice A2 xs.length c2) (B_2) (by omega))
    obtain ⟨ra_x2, rb_x2, rc_x2⟩ := (r_2).three
    have rf0_x2 := (r_2).frozen 0
    have rf1_x2 := (r_2).frozen 1
    have rf2_x2 := (r_2).frozen 2
    clear own2 r3 hzz
    go_wp2_with fail
    obtain ⟨ra_9, rb_9, rc_9⟩ := HRQ.out
    refine bodyPost_ret (v := .agg #[.int .i64 wd, .int .i64 ht, .slice A2 xs.length c2]) (by simp [results, Tryz.results41, go_sem, ra_9, rb_9, rc_9]) rfl ?_
    rw [HK.out]
    exact ⟨A2, c2, by rw [List.length_set], OWN.out, HB.out⟩
  · have HK := hide (kdB_two hk1)
    have hK2 : (decide (X % 2 = 1) == b) = false := by rw [beq_eq_false_iff_ne]; exact hk1
    have hK3 : ((X % 2 == 1) == b) = false := by rw [← hK2]; rfl
    go_enter Tryz.func41, Tryz.ntmps41
    go_wp2_with fail
    refine HPS.out.mono ?_
    rintro e w1 ⟨A1, c1, rfl, own, hb1⟩
    have p_1 := ((Bx.new_ w (w.heap.size) 26 #[.int .i64 wd, .int .i64 ht, .slice A xs.length c] (by simp)).alloc (.cells #[.int .i64 0, .int .i64 0, .slice none 0 0] 26)).below hb1
    obtain ⟨pa_1, pb_1, pc_1⟩ := (p_1).three
    have r_1 := (Bx.new_ (w.alloc (.cells #[.int .i64 wd, .int .i64 ht, .slice A xs.length c] 26)) (w.heap.size + 1) 26 #[.int .i64 0, .int .i64 0, .slice none 0 0] (by simp)).below hb1
    obtain ⟨ra_1, rb_1, rc_1⟩ := (r_1).three
    have rf0_1 := (r_1).frozen 0
    have rf1_1 := (r_1).frozen 1
    have rf2_1 := (r_1).frozen 2
    have z_1 : ((w.alloc (.cells #[.int .i64 wd, .int .i64 ht, .slice A xs.length c] 26)).alloc (.cells #[.int .i64 0, .int .i64 0, .slice none 0 0] 26)).heap.size ≤ w1.heap.size := hb1.size
    simp only [World.size_alloc] at z_1
    have B_1 := (((Below.refl w.heap.size w).alloc (by first | omega | (simp; omega) | simp) (.cells #[.int .i64 wd, .int .i64 ht, .slice A xs.length c] 26)).alloc (by first | omega | (simp; omega) | simp) (.cells #[.int .i64 0, .int .i64 0, .slice none 0 0] 26)).trans (hb1.mono (by first | omega | (simp; omega) | simp))
    have hlen : (ptsN wd xs.length).length = xs.length := HPL.out
    obtain ⟨g, pt, rfl, hgb, hgs, hpt, hcl, hfr⟩ := own.row (k := k) (by rw [hlen]; exact hk)
    have he : pt = (X, pntY wd k) := by
      have h := HPT.out
      rw [hpt] at h
      rw [HXX.out]
      exact Option.some.inj h
    subst he
    have hc0 := hcl 0 (.int .i64 X) rfl
    have hc1 := hcl 1 (.int .i64 (pntY wd k)) rfl
    have hc00 : w1.cell? ⟨g, k * 2, none⟩ = some (.int .i64 X) := hc0
    have hc11 : w1.cell? ⟨g, k * 2 + 1, none⟩ = some (.int .i64 (pntY wd k)) := hc1
    have hlt : k < (ptsN wd xs.length).length := by rw [hlen]; exact hk
    have hlb : (ptsN wd xs.length).length ≤ 1048576 := by rw [hlen]; exact hn
    have HC2 := hide (HCH.out _ (hxs.below (B_1)) 2)
    clear own hcl hpt hc0 hc1 hfr
    go_wp2_with fail
    refine HC2.out.mono ?_
    rintro e w2 ⟨A2, c2, rfl, own2, hb2⟩
    have p_2 := (p_1).below hb2
    obtain ⟨pa_2, pb_2, pc_2⟩ := (p_2).three
    have r_2 := (r_1).below hb2
    obtain ⟨ra_2, rb_2, rc_2⟩ := (r_2).three
    have rf0_2 := (r_2).frozen 0
    have rf1_2 := (r_2).frozen 1
    have rf2_2 := (r_2).frozen 2
    have z_2 : w1.heap.size ≤ w2.heap.size := hb2.size
    have B_2 := (B_1).trans (hb2.mono (by first | omega | (simp; omega) | simp))
    have r3 := (r_2).put3 (u0 := .int .i64 wd) (u1 := .int .i64 ht) (u2 := .slice A2 xs.length c2)
    have HRQ := hide r3.three
    have hzz := (r_1).lt
    have OWN := hide ((own2.far3 (b := w.heap.size + 1) (o0 := 0) (o1 := 1) (o2 := 2) (u0 := .int .i64 wd) (u1 := .int .i64 ht) (u2 := .slice A2 xs.length c2) (fun g' hg' => by have := (own2.ge hg').1; omega)).mono (show w.heap.size ≤ _ by omega))
    have HB := hide (below_put3 (b := w.heap.size + 1) (o0 := 0) (o1 := 1) (o2 := 2) (u0 := .int .i64 wd) (u1 := .int .i64 ht) (u2 := .slice A2 xs.length c2) (B_2) (by omega))
    obtain ⟨ra_x2, rb_x2, rc_x2⟩ := (r_2).three
    have rf0_x2 := (r_2).frozen 0
    have rf1_x2 := (r_2).frozen 1
    have rf2_x2 := (r_2).frozen 2
    clear own2 r3 hzz
    go_wp2_with fail
    obtain ⟨ra_9, rb_9, rc_9⟩ := HRQ.out
    refine bodyPost_ret (v := .agg #[.int .i64 wd, .int .i64 ht, .slice A2 xs.length c2]) (by simp [results, Tryz.results41, go_sem, ra_9, rb_9, rc_9]) rfl ?_
    rw [HK.out]
    exact ⟨A2, c2, by rw [List.length_set], OWN.out, HB.out⟩
end Go.Proofs.YtjlifbdaieblpaaGreat
