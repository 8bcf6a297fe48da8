/-
  Contracts: SmoothAt, of the reference and of the program. Conditions: the lengths are far below the machine's.
-/
import Derived.Test.YtjlifbdaieblpaaGreatSm4
import Derived.Test.YtjlifbdaieblpaaGreatTrMath3
import Derived.Deep.RegionHeld3
namespace Go.Proofs.YtjlifbdaieblpaaGreat
open Go.RowKit
set_option linter.unusedVariables false

/-- the number of the inner point that is the crossing k -/
def smN (xs : List Int) (k : Int) : Nat := ((zTo xs xs.length).getD k.toNat 0).toNat
/-- the panel smoothed at a crossing, and a code -/
def smR (wd ht : Int) (xs : List Int) (k : Int) (b : Bool) : (Int × Int × List Int) × Int := if crC wd ht xs k = 0 then ((wd, ht, xs.set (smN xs k) (kdB (pntX wd (smN xs k)) b)), 0) else ((0, 0, []), crC wd ht xs k)
theorem smR_ok {wd ht : Int} {xs : List Int} {K n : Nat} {b : Bool} (h : crC wd ht xs (K : Int) = 0) (hv : (zTo xs xs.length)[K]? = some (n : Int)) : smR wd ht xs (K : Int) b = ((wd, ht, xs.set n (kdB (pntX wd n) b)), 0) := by
  have e : smN xs (K : Int) = n := by
    unfold smN
    rw [Int.toNat_natCast, List.getD_eq_getElem?_getD, hv]
    simp
  unfold smR
  rw [if_pos h, e]
theorem smR_no {wd ht : Int} {xs : List Int} {k : Int} {b : Bool} (h : ¬ crC wd ht xs k = 0) : smR wd ht xs k b = ((0, 0, []), crC wd ht xs k) := by
  unfold smR
  rw [if_neg h]
theorem smR_len {wd ht : Int} {xs : List Int} {k : Int} {b : Bool} : (smR wd ht xs k b).1.2.2.length ≤ xs.length := by
  unfold smR
  split
  · simp
  · simp
theorem crN_at {xs : List Int} {K : Nat} (h : K < crN xs) : ∃ n : Nat, n < xs.length ∧ (zTo xs xs.length)[K]? = some (n : Int) := by
  obtain ⟨j, hj, h0, he⟩ := zTo_find (xs := xs) (n := xs.length) h
  exact ⟨j, hj, by rw [← he]; exact zTo_at h0 hj⟩
/-- A panel of its own and a number. -/
def RetPanC (w : World) (wd ht : Int) (xs : List Int) (v : Int) (e : Ending) (w' : World) : Prop :=
  ∃ A c, e = .returned (.tuple #[.agg #[.int .i64 wd, .int .i64 ht, .slice A xs.length c], .int .i64 v]) ∧ OwnI w' w.heap.size A c xs ∧ Below w.heap.size w w'

set_option maxRecDepth 20000 in
set_option maxHeartbeats 8000000 in
theorem implSmoothAt_any (wd ht : Int) (A : Option Addr) (c : Nat) (xs : List Int) (k : Int) (b : Bool) (w : World) (hxs : RI w A xs) (hn : xs.length ≤ 1048576) :
    Calls Tryz.prog 16 #[.agg #[.int .i64 wd, .int .i64 ht, .slice A xs.length c], .int .i64 k, .bool b] w (RetPanC w (smR wd ht xs k b).1.1 (smR wd ht xs k b).1.2.1 (smR wd ht xs k b).1.2.2 (smR wd ht xs k b).2) := by
  obtain ⟨pa_x1, pb_x1, pc_x1⟩ := ((Bx.new_ w (w.heap.size) 26 #[.int .i64 wd, .int .i64 ht, .slice A xs.length c] (by simp)).alloc (.cells #[.int .i64 0, .int .i64 0, .slice none 0 0] 26)).three
  obtain ⟨ra_x1, rb_x1, rc_x1⟩ := (Bx.new_ (w.alloc (.cells #[.int .i64 wd, .int .i64 ht, .slice A xs.length c] 26)) (w.heap.size + 1) 26 #[.int .i64 0, .int .i64 0, .slice none 0 0] (by simp)).three
  have rf0_x1 := (Bx.new_ (w.alloc (.cells #[.int .i64 wd, .int .i64 ht, .slice A xs.length c] 26)) (w.heap.size + 1) 26 #[.int .i64 0, .int .i64 0, .slice none 0 0] (by simp)).frozen 0
  have rf1_x1 := (Bx.new_ (w.alloc (.cells #[.int .i64 wd, .int .i64 ht, .slice A xs.length c] 26)) (w.heap.size + 1) 26 #[.int .i64 0, .int .i64 0, .slice none 0 0] (by simp)).frozen 1
  have rf2_x1 := (Bx.new_ (w.alloc (.cells #[.int .i64 wd, .int .i64 ht, .slice A xs.length c] 26)) (w.heap.size + 1) 26 #[.int .i64 0, .int .i64 0, .slice none 0 0] (by simp)).frozen 2
  have HCODE := hide (fun k => crossingNumberCode_any wd ht A c xs k ((w.alloc (.cells #[.int .i64 wd, .int .i64 ht, .slice A xs.length c] 26)).alloc (.cells #[.int .i64 0, .int .i64 0, .slice none 0 0] 26)) (hxs.below (((Below.refl w.heap.size w).alloc (by first | omega | (simp; omega) | simp) (.cells #[.int .i64 wd, .int .i64 ht, .slice A xs.length c] 26)).alloc (by first | omega | (simp; omega) | simp) (.cells #[.int .i64 0, .int .i64 0, .slice none 0 0] 26))) hn)
  by_cases h0 : crC wd ht xs k = 0
  · obtain ⟨hv, hk0, hk1⟩ := crC_zero h0
    obtain ⟨hs, hl⟩ := vld_sz hv
    obtain ⟨K, rfl⟩ : ∃ K : Nat, k = (K : Int) := ⟨k.toNat, by omega⟩
    rw [Int.toNat_natCast] at hk1
    obtain ⟨n, hnl, hnn⟩ := crN_at hk1
    have HR := hide (smR_ok (b := b) h0 hnn)
    have HVV := hide hnn
    have HC0 := hide h0
    have HL2 : Hid (K < (zTo xs xs.length).length) := hide hk1
    have hl3 : (zTo xs xs.length).length ≤ 1048576 := by have := crN_le xs; unfold crN at this; omega
    clear h0 hnn hk0 hk1
    have HSM := hide (fun (W : World) (h : RI W A xs) => smoothed_any wd ht A c xs n b W h hn hs hl hnl)
    have HCN := hide (fun (W : World) (h : RI W A xs) => crossingNumbers_any wd ht A c xs W h hn)
    obtain ⟨ys, hys⟩ : ∃ ys, ys = xs.set n (kdB (pntX wd n) b) := ⟨_, rfl⟩
    rw [← hys] at HSM HR
    clear hys
    have keepS : Hid (∀ W, Below w.heap.size w W → RI W A xs) := hide fun W hW => hxs.below hW
    clear hs hl
    go_enter Tryz.func16, Tryz.ntmps16
    go_wp2_with fail
    refine ((HCODE.out _)).mono ?_
    rintro e w1 ⟨rfl, hb1⟩
    have p_1 := ((Bx.new_ w (w.heap.size) 26 #[.int .i64 wd, .int .i64 ht, .slice A xs.length c] (by simp)).alloc (.cells #[.int .i64 0, .int .i64 0, .slice none 0 0] 26)).below hb1
    obtain ⟨pa_1, pb_1, pc_1⟩ := (p_1).three
    have r_1 := (Bx.new_ (w.alloc (.cells #[.int .i64 wd, .int .i64 ht, .slice A xs.length c] 26)) (w.heap.size + 1) 26 #[.int .i64 0, .int .i64 0, .slice none 0 0] (by simp)).below hb1
    obtain ⟨ra_1, rb_1, rc_1⟩ := (r_1).three
    have rf0_1 := (r_1).frozen 0
    have rf1_1 := (r_1).frozen 1
    have rf2_1 := (r_1).frozen 2
    have z_1 : ((w.alloc (.cells #[.int .i64 wd, .int .i64 ht, .slice A xs.length c] 26)).alloc (.cells #[.int .i64 0, .int .i64 0, .slice none 0 0] 26)).heap.size ≤ w1.heap.size := hb1.size
    simp only [World.size_alloc] at z_1
    have B_1 := (((Below.refl w.heap.size w).alloc (by first | omega | (simp; omega) | simp) (.cells #[.int .i64 wd, .int .i64 ht, .slice A xs.length c] 26)).alloc (by first | omega | (simp; omega) | simp) (.cells #[.int .i64 0, .int .i64 0, .slice none 0 0] 26)).trans (hb1.mono (by first | omega | (simp; omega) | simp))
    rw [HC0.out]
    go_upto_region 4 with fail
    have p1 := p_1
    have r1 := r_1
    have B1 := B_1
    have hz1 := hb1.size
    have HZ1 : Hid (w.heap.size + 2 ≤ w1.heap.size) := hide (by have := r1.lt; omega)
    have B1d := B1.drew
    have q1 := (p1.drew).three
    have HRR := hide (r1.drew)
    have HPP := hide (p1.drew)
    obtain ⟨qa1, qb1, qc1⟩ := q1
    go_region_with
      (first
        | (go_at_call 42; refine (HCN.out _ (keepS.out _ B1d)).mono ?_; rintro e w2 ⟨A2, c2, rfl, own2, hb2⟩; have B2 := B1d.trans (hb2.mono B1d.size); obtain ⟨qa2, qb2, qc2⟩ := (HPP.out.below hb2).three; have HR2 := hide (HRR.out.below hb2); obtain ⟨g, v', rfl, _, _, hv', hgc, _, _⟩ := own2.at_ (k := K) HL2.out; obtain rfl : (n : Int) = v' := (Option.some.inj (hv'.symm.trans HVV.out)).symm; have hkl := HL2.out; clear hv')
        | (go_at_call 41; refine (HSM.out _ (keepS.out _ B2)).mono ?_; rintro e w3 ⟨A3, c3, rfl, own3, hb3⟩; have B3 := B2.trans (hb3.mono B2.size); obtain ⟨qa3, qb3, qc3⟩ := ((HPP.out.below hb2).below hb3).three; have R3 := HR2.out.below hb3; obtain ⟨z0, z1, z2⟩ := R3.three; have f0 := R3.frozen 0; have f1 := R3.frozen 1; have f2 := R3.frozen 2; have HR3 := hide R3; clear R3))
    all_goals
      have hz2 := hb2.size
      simp only [World.size_drew] at hz2
      have R9 := HR3.out.put3 (u0 := .int .i64 wd) (u1 := .int .i64 ht) (u2 := .slice A3 ys.length c3)
      obtain ⟨ra_9, rb_9, rc_9⟩ := R9.three
      have OWN := hide ((own3.far3 (b := w.heap.size + 1) (o0 := 0) (o1 := 1) (o2 := 2) (u0 := .int .i64 wd) (u1 := .int .i64 ht) (u2 := .slice A3 ys.length c3) (fun g hg => by have := (own3.ge hg).1; have := HZ1.out; omega)).mono (show w.heap.size ≤ w2.heap.size by have := HZ1.out; omega))
      have HB := hide (below_put3 (b := w.heap.size + 1) (o0 := 0) (o1 := 1) (o2 := 2) (u0 := .int .i64 wd) (u1 := .int .i64 ht) (u2 := .slice A3 ys.length c3) B3 (by omega))
      clear own3 R9 z0 z1 z2 f0 f1 f2 p1 r1 own2
      go_wp2_with fail
      refine bodyPost_ret (v := .tuple #[.agg #[.int .i64 wd, .int .i64 ht, .slice A3 ys.length c3], .int .i64 0]) (by simp [results, Tryz.results16, go_sem, ra_9, rb_9, rc_9]) rfl ?_
      rw [HR.out]
      exact ⟨A3, c3, rfl, OWN.out, HB.out⟩
  ·
    have HR := hide (smR_no (b := b) h0)
    obtain ⟨v, hvv⟩ : ∃ v, v = crC wd ht xs k := ⟨_, rfl⟩
    rw [← hvv] at HR h0
    have HVV := hide hvv
    have d0 : (v != 0) = true := by simpa using h0
    clear h0 hvv
    go_enter Tryz.func16, Tryz.ntmps16
    go_wp2_with fail
    refine ((HCODE.out _)).mono ?_
    rintro e w1 ⟨rfl, hb1⟩
    have p_1 := ((Bx.new_ w (w.heap.size) 26 #[.int .i64 wd, .int .i64 ht, .slice A xs.length c] (by simp)).alloc (.cells #[.int .i64 0, .int .i64 0, .slice none 0 0] 26)).below hb1
    obtain ⟨pa_1, pb_1, pc_1⟩ := (p_1).three
    have r_1 := (Bx.new_ (w.alloc (.cells #[.int .i64 wd, .int .i64 ht, .slice A xs.length c] 26)) (w.heap.size + 1) 26 #[.int .i64 0, .int .i64 0, .slice none 0 0] (by simp)).below hb1
    obtain ⟨ra_1, rb_1, rc_1⟩ := (r_1).three
    have rf0_1 := (r_1).frozen 0
    have rf1_1 := (r_1).frozen 1
    have rf2_1 := (r_1).frozen 2
    have z_1 : ((w.alloc (.cells #[.int .i64 wd, .int .i64 ht, .slice A xs.length c] 26)).alloc (.cells #[.int .i64 0, .int .i64 0, .slice none 0 0] 26)).heap.size ≤ w1.heap.size := hb1.size
    simp only [World.size_alloc] at z_1
    have B_1 := (((Below.refl w.heap.size w).alloc (by first | omega | (simp; omega) | simp) (.cells #[.int .i64 wd, .int .i64 ht, .slice A xs.length c] 26)).alloc (by first | omega | (simp; omega) | simp) (.cells #[.int .i64 0, .int .i64 0, .slice none 0 0] 26)).trans (hb1.mono (by first | omega | (simp; omega) | simp))
    rw [← HVV.out]
    have r3 := (r_1).put3 (u0 := .int .i64 0) (u1 := .int .i64 0) (u2 := .slice none 0 0)
    have HRQ := hide r3.three
    have HB := hide (below_put3 (b := w.heap.size + 1) (o0 := 0) (o1 := 1) (o2 := 2) (u0 := .int .i64 0) (u1 := .int .i64 0) (u2 := .slice none 0 0) (B_1) (by omega))
    clear r3
    go_wp2_with fail
    obtain ⟨ra_9, rb_9, rc_9⟩ := HRQ.out
    refine bodyPost_ret (v := .tuple #[.agg #[.int .i64 0, .int .i64 0, .slice none 0 0], .int .i64 v]) (by simp [results, Tryz.results16, go_sem, ra_9, rb_9, rc_9]) rfl ?_
    rw [HR.out]
    exact ⟨none, 0, rfl, OwnI.nil _ _, HB.out⟩
end Go.Proofs.YtjlifbdaieblpaaGreat
