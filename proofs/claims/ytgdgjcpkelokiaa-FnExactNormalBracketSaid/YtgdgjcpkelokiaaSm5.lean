/-
  Contracts: SmoothAt, of the reference and of the program. Conditions: the lengths are far below the machine's.
-/
import Derived.Test.YtgdgjcpkelokiaaSm4
import Derived.Test.YtgdgjcpkelokiaaTrMath3
import Derived.Deep.RegionHeld3
namespace Go.Proofs.Ytgdgjcpkelokiaa
open Go.RowKit
set_option linter.unusedVariables false

/-- the number of the inner point that is the crossing k -/
def smN (xs : List Int) (k : Int) : Nat := ((zTo xs xs.length).getD k.toNat 0).toNat
/-- the panel smoothed at a crossing, and a code -/
def smR (wd ht : Int) (xs : List Int) (k : Int) (b : Bool) : (Int × Int × List Int) × Int := if crC wd ht xs k = 0 then ((wd, ht, xs.set (smN xs k) (kdB (pntX wd (smN xs k)) b)), 0) else ((0, 0, []), crC wd ht xs k)
theorem smR_ok {wd ht : Int} {xs : List Int} {K n : Nat} {b : Bool} (h : crC wd ht xs (K : Int) = 0) (hv : (zTo xs xs.length)[K]? = some (n : Int)) : smR wd ht xs (K : Int) b = ((wd, ht, xs.set n (kdB (pntX wd n) b)), 0) := by
  have e : smN xs (K : Int) = n := by
    unfold smN
    rw [Int.toNat_natCast, List.getD_eq_getElem?_getD, hv]
    simp
  unfold smR
  rw [if_pos h, e]
theorem smR_no {wd ht : Int} {xs : List Int} {k : Int} {b : Bool} (h : ¬ crC wd ht xs k = 0) : smR wd ht xs k b = ((0, 0, []), crC wd ht xs k) := by
  unfold smR
  rw [if_neg h]
theorem smR_len {wd ht : Int} {xs : List Int} {k : Int} {b : Bool} : (smR wd ht xs k b).1.2.2.length ≤ xs.length := by
  unfold smR
  split
  · simp
  · simp
theorem crN_at {xs : List Int} {K : Nat} (h : K < crN xs) : ∃ n : Nat, n < xs.length ∧ (zTo xs xs.length)[K]? = some (n : Int) := by
  obtain ⟨j, hj, h0, he⟩ := zTo_find (xs := xs) (n := xs.length) h
  exact ⟨j, hj, by rw [← he]; exact zTo_at h0 hj⟩
/-- A panel of its own and a number. -/
def RetPanC (w : World) (wd ht : Int) (xs : List Int) (v : Int) (e : Ending) (w' : World) : Prop :=
  ∃ A c, e = .returned (.tuple #[.agg #[.int .i64 wd, .int .i64 ht, .slice A xs.length c], .int .i64 v]) ∧ OwnI w' w.heap.size A c xs ∧ Below w.heap.size w w'

set_option maxRecDepth 20000 in
set_option maxHeartbeats 8000000 in
theorem implSmoothAt_any (wd ht : Int) (A : Option Addr) (c : Nat) (xs : List Int) (k : Int) (b : Bool) (w : World) (hxs : RI w A xs) (hn : xs.length ≤ 1048576) :
    Calls Try.prog 9 #[.agg #[.int .i64 wd, .int .i64 ht, .slice A xs.length c], .int .i64 k, .bool b] w (RetPanC w (smR wd ht xs k b).1.1 (smR wd ht xs k b).1.2.1 (smR wd ht xs k b).1.2.2 (smR wd ht xs k b).2) := by
  obtain ⟨pa_x1, pb_x1, pc_x1⟩ := ((Bx.new_ w (w.heap.size) 26 #[.int .i64 wd, .int .i64 ht, .slice A xs.length c] (by simp)).alloc (.cells #[.int .i64 0, .int .i64 0, .slice none 0 0] 26)).three
  obtain ⟨ra_x1, rb_x1, rc_x1⟩ := (Bx.new_ (w.alloc (.cells #[.int .i64 wd, .int .i64 ht, .slice A xs.length c] 26)) (w.heap.size + 1) 26 #[.int .i64 0, .int .i64 0, .slice none 0 0] (by simp)).three
  have rf0_x1 := (Bx.new_ (w.alloc (.cells #[.int .i64 wd, .int .i64 ht, .slice A xs.length c] 26)) (w.heap.size + 1) 26 #[.int .i64 0, .int .i64 0, .slice none 0 0] (by simp)).frozen 0
  have rf1_x1 := (Bx.new_ (w.alloc (.cells #[.int .i64 wd, .int .i64 ht, .slice A xs.length c] 26)) (w.heap.size + 1) 26 #[.int .i64 0, .int .i64 0, .slice none 0 0] (by simp)).frozen 1
  have rf2_x1 := (Bx.new_ (w.alloc (.cells #[.int .i64 wd, .int .i64 ht, .slice A xs.length c] 26)) (w.heap.size + 1) 26 #[.int .i64 0, .int .i64 0, .slice none 0 0] (by simp)).frozen 2
  have HCODE := hide (fun k => crossingNumberCode_any wd ht A c xs k ((w.alloc (.cells #[.int .i64 wd, .int .i64 ht, .slice A xs.length c] 26)).alloc (.cells #[.int .i64 0, .int .i64 0, .slice none 0 0] 26)) (hxs.below (((Below.refl w.heap.size w).alloc (by first | omega | (simp; omega) | simp) (.cells #[.int .i64 wd, .int .i64 ht, .slice A xs.length c] 26)).alloc (by first | omega | (simp; omega) | simp) (.cells #[.int .i64 0, .int .i64 0, .slice none 0 0] 26))) hn)
  by_cases h0 : crC wd ht xs k = 0
  · obtain ⟨hv, hk0, hk1⟩ := crC_zero h0
    obtain ⟨hs, hl⟩ := vld_sz hv
    obtain ⟨K, rfl⟩ : ∃ K : Nat, k = (K : Int) := ⟨k.toNat, by omega⟩
    rw [Int.toNat_natCast] at hk1
    obtain ⟨n, hnl, hnn⟩ := crN_at hk1
    have HR := hide (smR_ok (b := b) h0 hnn)
    have HVV := hide hnn
    have HC0 := hide h0
    have HL2 : Hid (K < (zTo xs xs.length).length) := hide hk1
    have hl3 : (zTo xs xs.length).length ≤ 1048576 := by have := crN_le xs; unfold crN at this; omega
    clear h0 hnn hk0 hk1
    have HSM := hide (fun (W : World) (h : RI W A xs) => smoothed_any wd ht A c xs n b W h hn hs hl hnl)
    have HCN := hide (fun (W : World) (h : RI W A xs) => crossingNumbers_any wd ht A c xs W h hn)
    obtain ⟨ys, hys⟩ : ∃ ys, ys = xs.set n (kdB (pntX wd n) b) := ⟨_, rfl⟩
    rw [← hys] at HSM HR
    clear hys
    have keepS : Hid (∀ W, Below w.heap.size w W → RI W A xs) := hide fun W hW => hxs.below hW
    clear hs hl
    go_enter Try.func9, Try.ntmps9
    go_wp2_with fail
    refine ((HCODE.out _)).mono ?_
    rintro e w1 ⟨rfl, hb1⟩
    have p_1 := ((Bx.new_ w (w.heap.size) 26 #[.int .i64 wd, .int .i64 ht, .slice A xs.length c] (by simp)).alloc (.cells #[.int .i64 0, .int .i64 0, .slice none 0 0] 26)).below hb1
    obtain ⟨pa_1, pb_1, pc_1⟩ := (p_1).three
    have r_1 := (Bx.new_ (w.alloc (.cells #[.int .i64 wd, .int .i64 ht, .slice A xs.length c] 26)) (w.heap.size + 1) 26 #[.int .i64 0, .int .i64 0, .slice none 0 0] (by simp)).below hb1
    obtain ⟨ra_1, rb_1, rc_1⟩ := (r_1).three
    have rf0_1 := (r_1).frozen 0
    have rf1_1 := (r_1).frozen 1
    have rf2_1 := (r_1).frozen 2
    have z_1 : ((w.alloc (.cells #[.int .i64 wd, .int .i64 ht, .slice A xs.length c] 26)).alloc (.cells #[.int .i64 0, .int .i64 0, .slice none 0 0] 26)).heap.size ≤ w1.heap.size := hb1.size
    simp only [World.size_alloc] at z_1
    have B_1 := (((Below.refl w.heap.size w).alloc (by first | omega | (simp; omega) | simp) (.cells #[.int .i64 wd, .int .i64 ht, .slice A xs.length c] 26)).alloc (by first | omega | (simp; omega) | simp) (.cells #[.int .i64 0, .int .i64 0, .slice none 0 0] 26)).trans (hb1.mono (by first | omega | (simp; omega) | simp))
    rw [HC0.out]
    go_upto_region 4 with fail
    have p1 := p_1
    have r1 := r_1
    have B1 := B_1
    have hz1 := hb1.size
    have HZ1 : Hid (w.heap.size + 2 ≤ w1.heap.size) := hide (by have := r1.lt; omega)
    have B1d := B1.drew
    have q1 := (p1.drew).three
    have HRR := hide (r1.drew)
    have HPP := hide (p1.drew)
    obtain ⟨qa1, qb1, qc1⟩ := q1
    go_region_with
      (first
        | (go_at_call 29; refine (HCN.out _ (keepS.out _ B1d)).mono ?_; rintro e w2 ⟨A2, c2, rfl, own2, hb2⟩; have B2 := B1d.trans (hb2.mono B1d.size); obtain ⟨qa2, qb2, qc2⟩ := (HPP.out.below hb2).three; have HR2 := hide (HRR.out.below hb2); obtain ⟨g, v', rfl, _, _, hv', hgc, _, _⟩ := own2.at_ (k := K) HL2.out; obtain rfl : (n : Int) = v' := (Option.some.inj (hv'.symm.trans HVV.out)).symm; have hkl := HL2.out; clear hv')
        | (go_at_call 28; refine (HSM.out _ (keepS.out _ B2)).mono ?_; rintro e w3 ⟨A3, c3, rfl, own3, hb3⟩; have B3 := B2.trans (hb3.mono B2.size); obtain ⟨qa3, qb3, qc3⟩ := ((HPP.out.below hb2).below hb3).three; have R3 := HR2.out.below hb3; obtain ⟨z0, z1, z2⟩ := R3.three; have f0 := R3.frozen 0; have f1 := R3.frozen 1; have f2 := R3.frozen 2; have HR3 := hide R3; clear R3))
    all_goals
      have hz2 := hb2.size
      simp only [World.size_drew] at hz2
      have R9 := HR3.out.put3 (u0 := .int .i64 wd) (u1 := .int .i64 ht) (u2 := .slice A3 ys.length c3)
      obtain ⟨ra_9, rb_9, rc_9⟩ := R9.three
      have OWN := hide ((own3.far3 (b := w.heap.size + 1) (o0 := 0) (o1 := 1) (o2 := 2) (u0 := .int .i64 wd) (u1 := .int .i64 ht) (u2 := .slice A3 ys.length c3) (fun g hg => by have := (own3.ge hg).1; have := HZ1.out; omega)).mono (show w.heap.size ≤ w2.heap.size by have := HZ1.out; omega))
      have HB := hide (below_put3 (b := w.heap.size + 1) (o0 := 0) (o1 := 1) (o2 := 2) (u0 := .int .i64 wd) (u1 := .int .i64 ht) (u2 := .slice A3 ys.length c3) B3 (by omega))
      clear own3 R9 z0 z1 z2 f0 f1 f2 p1 r1 own2
      go_wp2_with fail
      refine bodyPost_ret (v := .tuple #[.agg #[.int .i64 wd, .int .i64 ht, .slice A3 ys.length c3], .int .i64 0]) (by simp [results, Try.results9, go_sem, ra_9, rb_9, rc_9]) rfl ?_
      rw [HR.out]
      exact ⟨A3, c3, rfl, OWN.out, HB.out⟩
  ·
    have HR := hide (smR_no (b := b) h0)
    obtain ⟨v, hvv⟩ : ∃ v, v = crC wd ht xs k := ⟨_, rfl⟩
    rw [← hvv] at HR h0
    have HVV := hide hvv
    have d0 : (v != 0) = true := by simpa using h0
    clear h0 hvv
    go_enter Try.func9, Try.ntmps9
    go_wp2_with fail
    refine ((HCODE.out _)).mono ?_
    rintro e w1 ⟨rfl, hb1⟩
    have p_1 := ((Bx.new_ w (w.heap.size) 26 #[.int .i64 wd, .int .i64 ht, .slice A xs.length c] (by simp)).alloc (.cells #[.int .i64 0, .int .i64 0, .slice none 0 0] 26)).below hb1
    obtain ⟨pa_1, pb_1, pc_1⟩ := (p_1).three
    have r_1 := (Bx.new_ (w.alloc (.cells #[.int .i64 wd, .int .i64 ht, .slice A xs.length c] 26)) (w.heap.size + 1) 26 #[.int .i64 0, .int .i64 0, .slice none 0 0] (by simp)).below hb1
    obtain ⟨ra_1, rb_1, rc_1⟩ := (r_1).three
    have rf0_1 := (r_1).frozen 0
    have rf1_1 := (r_1).frozen 1
    have rf2_1 := (r_1).frozen 2
    have z_1 : ((w.alloc (.cells #[.int .i64 wd, .int .i64 ht, .slice A xs.length c] 26)).alloc (.cells #[.int .i64 0, .int .i64 0, .slice none 0 0] 26)).heap.size ≤ w1.heap.size := hb1.size
    simp only [World.size_alloc] at z_1
    have B_1 := (((Below.refl w.heap.size w).alloc (by first | omega | (simp; omega) | simp) (.cells #[.int .i64 wd, .int .i64 ht, .slice A xs.length c] 26)).alloc (by first | omega | (simp; omega) | simp) (.cells #[.int .i64 0, .int .i64 0, .slice none 0 0] 26)).trans (hb1.mono (by first | omega | (simp; omega) | simp))
    rw [← HVV.out]
    have r3 := (r_1).put3 (u0 := .int .i64 0) (u1 := .int .i64 0) (u2 := .slice none 0 0)
    have HRQ := hide r3.three
    have HB := hide (below_put3 (b := w.heap.size + 1) (o0 := 0) (o1 := 1) (o2 := 2) (u0 := .int .i64 0) (u1 := .int .i64 0) (u2 := .slice none 0 0) (B_1) (by omega))
    clear r3
    go_wp2_with fail
    obtain ⟨ra_9, rb_9, rc_9⟩ := HRQ.out
    refine bodyPost_ret (v := .tuple #[.agg #[.int .i64 0, .int .i64 0, .slice none 0 0], .int .i64 v]) (by simp [results, Try.results9, go_sem, ra_9, rb_9, rc_9]) rfl ?_
    rw [HR.out]
    exact ⟨none, 0, rfl, OwnI.nil _ _, HB.out⟩
set_option maxRecDepth 20000 in
set_option maxHeartbeats 8000000 in
theorem specSmoothAt_any (wd ht : Int) (A : Option Addr) (c : Nat) (xs : List Int) (k : Int) (b : Bool) (w : World) (hxs : RI w A xs) (hn : xs.length ≤ 1048576) :
    Calls Try.prog 7 #[.agg #[.int .i64 wd, .int .i64 ht, .slice A xs.length c], .int .i64 k, .bool b] w (RetPanC w (smR wd ht xs k b).1.1 (smR wd ht xs k b).1.2.1 (smR wd ht xs k b).1.2.2 (smR wd ht xs k b).2) := by
  obtain ⟨pa_x1, pb_x1, pc_x1⟩ := ((Bx.new_ w (w.heap.size) 26 #[.int .i64 wd, .int .i64 ht, .slice A xs.length c] (by simp)).alloc (.cells #[.int .i64 0, .int .i64 0, .slice none 0 0] 26)).three
  obtain ⟨ra_x1, rb_x1, rc_x1⟩ := (Bx.new_ (w.alloc (.cells #[.int .i64 wd, .int .i64 ht, .slice A xs.length c] 26)) (w.heap.size + 1) 26 #[.int .i64 0, .int .i64 0, .slice none 0 0] (by simp)).three
  have rf0_x1 := (Bx.new_ (w.alloc (.cells #[.int .i64 wd, .int .i64 ht, .slice A xs.length c] 26)) (w.heap.size + 1) 26 #[.int .i64 0, .int .i64 0, .slice none 0 0] (by simp)).frozen 0
  have rf1_x1 := (Bx.new_ (w.alloc (.cells #[.int .i64 wd, .int .i64 ht, .slice A xs.length c] 26)) (w.heap.size + 1) 26 #[.int .i64 0, .int .i64 0, .slice none 0 0] (by simp)).frozen 1
  have rf2_x1 := (Bx.new_ (w.alloc (.cells #[.int .i64 wd, .int .i64 ht, .slice A xs.length c] 26)) (w.heap.size + 1) 26 #[.int .i64 0, .int .i64 0, .slice none 0 0] (by simp)).frozen 2
  have HCODE := hide (fun k => l17Code_any w.heap.size wd ht A c xs k ((w.alloc (.cells #[.int .i64 wd, .int .i64 ht, .slice A xs.length c] 26)).alloc (.cells #[.int .i64 0, .int .i64 0, .slice none 0 0] 26)) (PA.mk ((Bx.new_ w (w.heap.size) 26 #[.int .i64 wd, .int .i64 ht, .slice A xs.length c] (by simp)).alloc (.cells #[.int .i64 0, .int .i64 0, .slice none 0 0] 26)) (hxs.below (((Below.refl w.heap.size w).alloc (by first | omega | (simp; omega) | simp) (.cells #[.int .i64 wd, .int .i64 ht, .slice A xs.length c] 26)).alloc (by first | omega | (simp; omega) | simp) (.cells #[.int .i64 0, .int .i64 0, .slice none 0 0] 26)))) hn)
  by_cases h0 : crC wd ht xs k = 0
  · obtain ⟨hv, hk0, hk1⟩ := crC_zero h0
    obtain ⟨hs, hl⟩ := vld_sz hv
    obtain ⟨K, rfl⟩ : ∃ K : Nat, k = (K : Int) := ⟨k.toNat, by omega⟩
    rw [Int.toNat_natCast] at hk1
    obtain ⟨n, hnl, hnn⟩ := crN_at hk1
    have HR := hide (smR_ok (b := b) h0 hnn)
    have HVV := hide hnn
    have HC0 := hide h0
    have HL2 : Hid (K < (zTo xs xs.length).length) := hide hk1
    have hl3 : (zTo xs xs.length).length ≤ 1048576 := by have := crN_le xs; unfold crN at this; omega
    clear h0 hnn hk0 hk1
    obtain ⟨_, _, _, _, hx1, hx2⟩ := pnt_facts hs (k := n) (by omega)
    have HPT := hide (fun (W : World) (h : PA W w.heap.size wd ht A c xs) => l02Point_any w.heap.size wd ht A c xs n W h hs (by omega))
    have HKD := hide (fun (W : World) => l18Kind_any (pntX wd n) (pntY wd n) b W (by obtain ⟨s1, s2, s3, s4⟩ := id hs; omega))
    have HOWN := hide (fun (W : World) (h : PA W w.heap.size wd ht A c xs) => l02Own_any w.heap.size wd ht A c xs W h hn)
    have HALL := hide (fun (W : World) (h : PA W w.heap.size wd ht A c xs) => l13All_any w.heap.size wd ht A c xs W h hn)
    obtain ⟨X, hX⟩ : ∃ X, X = pntX wd n := ⟨_, rfl⟩
    obtain ⟨Y, hY⟩ : ∃ Y, Y = pntY wd n := ⟨_, rfl⟩
    rw [← hX] at HPT HKD HR
    rw [← hY] at HPT HKD
    obtain ⟨kd, hkd⟩ : ∃ kd, kd = kdB X b := ⟨_, rfl⟩
    rw [← hkd] at HR HKD
    clear hX hY hkd hx1 hx2 hs hl
    go_enter Try.func7, Try.ntmps7
    go_wp2_with fail
    refine ((HCODE.out _)).mono ?_
    rintro e w1 ⟨rfl, hb1⟩
    have p_1 := ((Bx.new_ w (w.heap.size) 26 #[.int .i64 wd, .int .i64 ht, .slice A xs.length c] (by simp)).alloc (.cells #[.int .i64 0, .int .i64 0, .slice none 0 0] 26)).below hb1
    obtain ⟨pa_1, pb_1, pc_1⟩ := (p_1).three
    have r_1 := (Bx.new_ (w.alloc (.cells #[.int .i64 wd, .int .i64 ht, .slice A xs.length c] 26)) (w.heap.size + 1) 26 #[.int .i64 0, .int .i64 0, .slice none 0 0] (by simp)).below hb1
    obtain ⟨ra_1, rb_1, rc_1⟩ := (r_1).three
    have rf0_1 := (r_1).frozen 0
    have rf1_1 := (r_1).frozen 1
    have rf2_1 := (r_1).frozen 2
    have z_1 : ((w.alloc (.cells #[.int .i64 wd, .int .i64 ht, .slice A xs.length c] 26)).alloc (.cells #[.int .i64 0, .int .i64 0, .slice none 0 0] 26)).heap.size ≤ w1.heap.size := hb1.size
    simp only [World.size_alloc] at z_1
    have B_1 := (((Below.refl w.heap.size w).alloc (by first | omega | (simp; omega) | simp) (.cells #[.int .i64 wd, .int .i64 ht, .slice A xs.length c] 26)).alloc (by first | omega | (simp; omega) | simp) (.cells #[.int .i64 0, .int .i64 0, .slice none 0 0] 26)).trans (hb1.mono (by first | omega | (simp; omega) | simp))
    rw [HC0.out]
    go_wp2_with fail
    refine (HOWN.out _ (PA.mk (p_1) (hxs.below (B_1)))).mono ?_
    rintro e w2 ⟨A2, c2, rfl, own2, hb2⟩
    have p_2 := (p_1).below hb2
    obtain ⟨pa_2, pb_2, pc_2⟩ := (p_2).three
    have r_2 := (r_1).below hb2
    obtain ⟨ra_2, rb_2, rc_2⟩ := (r_2).three
    have rf0_2 := (r_2).frozen 0
    have rf1_2 := (r_2).frozen 1
    have rf2_2 := (r_2).frozen 2
    have z_2 : w1.heap.size ≤ w2.heap.size := hb2.size
    have B_2 := (B_1).trans (hb2.mono (by first | omega | (simp; omega) | simp))
    have own2' := own2.alloc (.cells #[.int .i64 wd, .int .i64 ht, .slice A2 xs.length c2] 26)
    obtain ⟨oa_x2, ob_x2, oc_x2⟩ := (Bx.new_ w2 (w2.heap.size) 26 #[.int .i64 wd, .int .i64 ht, .slice A2 xs.length c2] (by simp)).three
    obtain ⟨pa_x2, pb_x2, pc_x2⟩ := ((p_2).alloc (.cells #[.int .i64 wd, .int .i64 ht, .slice A2 xs.length c2] 26)).three
    obtain ⟨ra_x2, rb_x2, rc_x2⟩ := ((r_2).alloc (.cells #[.int .i64 wd, .int .i64 ht, .slice A2 xs.length c2] 26)).three
    have rf0_x2 := ((r_2).alloc (.cells #[.int .i64 wd, .int .i64 ht, .slice A2 xs.length c2] 26)).frozen 0
    have rf1_x2 := ((r_2).alloc (.cells #[.int .i64 wd, .int .i64 ht, .slice A2 xs.length c2] 26)).frozen 1
    have rf2_x2 := ((r_2).alloc (.cells #[.int .i64 wd, .int .i64 ht, .slice A2 xs.length c2] 26)).frozen 2
    go_wp2_with fail
    refine (HALL.out _ (PA.mk ((p_2).alloc (.cells #[.int .i64 wd, .int .i64 ht, .slice A2 xs.length c2] 26)) (hxs.below ((B_2).alloc (by first | omega | (simp; omega) | simp) (.cells #[.int .i64 wd, .int .i64 ht, .slice A2 xs.length c2] 26))))).mono ?_
    rintro e w3 ⟨A3, c3, rfl, ownz, hb3⟩
    have p_3 := ((p_2).alloc (.cells #[.int .i64 wd, .int .i64 ht, .slice A2 xs.length c2] 26)).below hb3
    obtain ⟨pa_3, pb_3, pc_3⟩ := (p_3).three
    have r_3 := ((r_2).alloc (.cells #[.int .i64 wd, .int .i64 ht, .slice A2 xs.length c2] 26)).below hb3
    obtain ⟨ra_3, rb_3, rc_3⟩ := (r_3).three
    have rf0_3 := (r_3).frozen 0
    have rf1_3 := (r_3).frozen 1
    have rf2_3 := (r_3).frozen 2
    have o_3 := (Bx.new_ w2 (w2.heap.size) 26 #[.int .i64 wd, .int .i64 ht, .slice A2 xs.length c2] (by simp)).below hb3
    obtain ⟨oa_3, ob_3, oc_3⟩ := (o_3).three
    have z_3 : (w2.alloc (.cells #[.int .i64 wd, .int .i64 ht, .slice A2 xs.length c2] 26)).heap.size ≤ w3.heap.size := hb3.size
    simp only [World.size_alloc] at z_3
    have B_3 := ((B_2).alloc (by first | omega | (simp; omega) | simp) (.cells #[.int .i64 wd, .int .i64 ht, .slice A2 xs.length c2] 26)).trans (hb3.mono (by first | omega | (simp; omega) | simp))
    obtain ⟨g3, v', rfl, _, _, hv', hgc3, _, _⟩ := ownz.at_ (k := K) HL2.out
    obtain rfl : (n : Int) = v' := (Option.some.inj (hv'.symm.trans HVV.out)).symm
    have hkl := HL2.out
    have own3 := own2'.below hb3
    obtain ⟨g, x, rfl, hgb, hgs, hx, _, _, _⟩ := own3.at_ (k := n) hnl
    clear hv' ownz
    obtain ⟨oa_x3, ob_x3, oc_x3⟩ := (o_3).three
    obtain ⟨pa_x3, pb_x3, pc_x3⟩ := (p_3).three
    obtain ⟨ra_x3, rb_x3, rc_x3⟩ := (r_3).three
    have rf0_x3 := (r_3).frozen 0
    have rf1_x3 := (r_3).frozen 1
    have rf2_x3 := (r_3).frozen 2
    go_upto_region 6 with fail
    have hob := (o_3).lt
    have hz3 := hb3.size
    simp only [World.size_alloc] at hz3
    have HZ : Hid (w.heap.size + 2 ≤ w2.heap.size) := hide (by have := (r_2).lt; omega)
    have B3 := B_3
    have B3d := B3.drew
    have hox := (o_3).drew
    have qo := hox.three.2.2
    have HO := hide hox
    have HRR := hide (r_3).drew
    have HP := hide (PA.mk (p_3).drew (hxs.below B3d))
    have HG := hide (own3.drew)
    have o3 := o_3
    have r3 := r_3
    have p3 := p_3
    have hgw1 := (own2.ge rfl).1
    have hgw2 := (own2.ge rfl).2
    have hz1 := hb1.size
    simp only [World.size_alloc] at hz1
    clear o3 r3 p3 own2 own2' own3 hx hox
    clear hb2 hb1
    go_region_held3 (fun w' => w'.cell? ⟨w2.heap.size, 2, none⟩ = some (.slice (some ⟨g, 0, none⟩) xs.length c2))
      (first | exact qo | exact qo4 | exact qo5 | exact qo6)
      (first
        | (go_at_call 25; refine (HPT.out _ HP.out).mono ?_; rintro e w4 ⟨rfl, hb4⟩; have B4 := B3d.trans (hb4.mono B3d.size); have HO4 := hide (HO.out.below hb4); have qo4 := HO4.out.three.2.2; have HR4 := hide (HRR.out.below hb4); have HG4 := hide (HG.out.below hb4))
        | (go_at_call 24; refine (HKD.out _).mono ?_; rintro e w5 ⟨rfl, hb5⟩; have B5 := B4.trans (hb5.mono B4.size); have HO5 := hide (HO4.out.below hb5); have qo5 := HO5.out.three.2.2; have HR5 := hide (HR4.out.below hb5); have hg5 := HG4.out.below hb5; obtain ⟨g', x5, eg, _, _, _, hgc5, hgf5, hst5⟩ := hg5.at_ (k := n) hnl; obtain rfl : g = g' := (by cases eg; rfl); have hs5 := (hst5 kd).1; have qo6 := (HO5.out.far (p := ⟨g, n, none⟩) (show w2.heap.size ≠ g by omega) (.int .i64 kd)).three.2.2; have HS5 := hide hs5; clear hg5 hst5 hs5))
    have hg1 : g ≠ w.heap.size + 1 := by omega
    have hg2 : g ≠ w2.heap.size := by omega
    have hg0 : w.heap.size ≤ g := by omega
    have R6 := HR5.out.far (p := ⟨g, n, none⟩) (Ne.symm hg1) (.int .i64 kd)
    have O6 := HO5.out.far (p := ⟨g, n, none⟩) (Ne.symm hg2) (.int .i64 kd)
    have B6 := B5.setCell (p := ⟨g, n, none⟩) hg0 (.int .i64 kd)
    have R9 := R6.put3 (u0 := .int .i64 wd) (u1 := .int .i64 ht) (u2 := .slice (some ⟨g, 0, none⟩) xs.length c2)
    have HRQ := hide R9.three
    have OWN := hide ((HS5.out.far3 (b := w.heap.size + 1) (o0 := 0) (o1 := 1) (o2 := 2) (u0 := .int .i64 wd) (u1 := .int .i64 ht) (u2 := .slice (some ⟨g, 0, none⟩) xs.length c2) (fun g' hg' => by have := blk_inj hg'; omega)).mono (show w.heap.size ≤ _ by first | omega | (simp; omega)))
    have HB := hide (below_put3 (b := w.heap.size + 1) (o0 := 0) (o1 := 1) (o2 := 2) (u0 := .int .i64 wd) (u1 := .int .i64 ht) (u2 := .slice (some ⟨g, 0, none⟩) xs.length c2) B6 (by omega))
    obtain ⟨za, zb, zc⟩ := R6.three
    obtain ⟨ya, yb, yc⟩ := O6.three
    have f0 := R6.frozen 0
    have f1 := R6.frozen 1
    have f2 := R6.frozen 2
    clear R9 R6 O6 qo qo4 qo5 qo6 hgc5 hgf5
    go_wp2_with fail
    obtain ⟨ra_9, rb_9, rc_9⟩ := HRQ.out
    refine bodyPost_ret (v := .tuple #[.agg #[.int .i64 wd, .int .i64 ht, .slice (some ⟨g, 0, none⟩) xs.length c2], .int .i64 0]) (by simp [results, Try.results7, go_sem, ra_9, rb_9, rc_9]) rfl ?_
    rw [HR.out]
    exact ⟨some ⟨g, 0, none⟩, c2, by rw [List.length_set], OWN.out, HB.out⟩
  ·
    have HR := hide (smR_no (b := b) h0)
    obtain ⟨v, hvv⟩ : ∃ v, v = crC wd ht xs k := ⟨_, rfl⟩
    rw [← hvv] at HR h0
    have HVV := hide hvv
    have d0 : (v != 0) = true := by simpa using h0
    clear h0 hvv
    go_enter Try.func7, Try.ntmps7
    go_wp2_with fail
    refine ((HCODE.out _)).mono ?_
    rintro e w1 ⟨rfl, hb1⟩
    have p_1 := ((Bx.new_ w (w.heap.size) 26 #[.int .i64 wd, .int .i64 ht, .slice A xs.length c] (by simp)).alloc (.cells #[.int .i64 0, .int .i64 0, .slice none 0 0] 26)).below hb1
    obtain ⟨pa_1, pb_1, pc_1⟩ := (p_1).three
    have r_1 := (Bx.new_ (w.alloc (.cells #[.int .i64 wd, .int .i64 ht, .slice A xs.length c] 26)) (w.heap.size + 1) 26 #[.int .i64 0, .int .i64 0, .slice none 0 0] (by simp)).below hb1
    obtain ⟨ra_1, rb_1, rc_1⟩ := (r_1).three
    have rf0_1 := (r_1).frozen 0
    have rf1_1 := (r_1).frozen 1
    have rf2_1 := (r_1).frozen 2
    have z_1 : ((w.alloc (.cells #[.int .i64 wd, .int .i64 ht, .slice A xs.length c] 26)).alloc (.cells #[.int .i64 0, .int .i64 0, .slice none 0 0] 26)).heap.size ≤ w1.heap.size := hb1.size
    simp only [World.size_alloc] at z_1
    have B_1 := (((Below.refl w.heap.size w).alloc (by first | omega | (simp; omega) | simp) (.cells #[.int .i64 wd, .int .i64 ht, .slice A xs.length c] 26)).alloc (by first | omega | (simp; omega) | simp) (.cells #[.int .i64 0, .int .i64 0, .slice none 0 0] 26)).trans (hb1.mono (by first | omega | (simp; omega) | simp))
    rw [← HVV.out]
    have r3 := (r_1).put3 (u0 := .int .i64 0) (u1 := .int .i64 0) (u2 := .slice none 0 0)
    have HRQ := hide r3.three
    have HB := hide (below_put3 (b := w.heap.size + 1) (o0 := 0) (o1 := 1) (o2 := 2) (u0 := .int .i64 0) (u1 := .int .i64 0) (u2 := .slice none 0 0) (B_1) (by omega))
    clear r3
    go_wp2_with fail
    obtain ⟨ra_9, rb_9, rc_9⟩ := HRQ.out
    refine bodyPost_ret (v := .tuple #[.agg #[.int .i64 0, .int .i64 0, .slice none 0 0], .int .i64 v]) (by simp [results, Try.results7, go_sem, ra_9, rb_9, rc_9]) rfl ?_
    rw [HR.out]
    exact ⟨none, 0, rfl, OwnI.nil _ _, HB.out⟩
end Go.Proofs.Ytgdgjcpkelokiaa
