/-
  Contracts: DirectionsAt, of the reference and of the program; equality of walkers. Conditions: the lengths are far below the machine's.
-/
import Derived.Test.YtmjeafklafjakaaTr14
import Derived.Deep.RegionHeld3
namespace Go.Proofs.Ytmjeafklafjakaa
open Go.RowKit
set_option linter.unusedVariables false

/-- who goes on over and under at a crossing -/
noncomputable def datR (wd ht : Int) (xs : List Int) (k : Int) : Wk × Wk × Int := if crC wd ht xs k = 0 then ((dirL wd ht xs true).getD k.toNat zW, (dirL wd ht xs false).getD k.toNat zW, 0) else (zW, zW, crC wd ht xs k)
theorem datR_ok {wd ht : Int} {xs : List Int} {K : Nat} {a b : Wk} (h : crC wd ht xs (K : Int) = 0) (ha : (dirL wd ht xs true)[K]? = some a) (hb : (dirL wd ht xs false)[K]? = some b) : datR wd ht xs (K : Int) = (a, b, 0) := by
  unfold datR
  rw [if_pos h, Int.toNat_natCast, List.getD_eq_getElem?_getD, ha, List.getD_eq_getElem?_getD, hb]
  rfl
theorem datR_no {wd ht : Int} {xs : List Int} {k : Int} (h : ¬ crC wd ht xs k = 0) : datR wd ht xs k = (zW, zW, crC wd ht xs k) := by
  unfold datR
  rw [if_neg h]

set_option maxRecDepth 20000 in
set_option maxHeartbeats 8000000 in
theorem implDirectionsAt_any (wd ht : Int) (A : Option Addr) (c : Nat) (xs : List Int) (k : Int) (w : World) (hxs : RI w A xs) (hcap : xs.length ≤ c ∧ c ≤ 9223372036854775807) (hn : xs.length ≤ 1048576) :
    Calls Try.prog 21 #[.agg #[.int .i64 wd, .int .i64 ht, .slice A xs.length c], .int .i64 k] w (RetV w (.tuple #[.agg #[.int .i64 ((datR wd ht xs k).1.x), .int .i64 ((datR wd ht xs k).1.y), .int .i64 ((datR wd ht xs k).1.dx), .int .i64 ((datR wd ht xs k).1.dy)], .agg #[.int .i64 ((datR wd ht xs k).2.1.x), .int .i64 ((datR wd ht xs k).2.1.y), .int .i64 ((datR wd ht xs k).2.1.dx), .int .i64 ((datR wd ht xs k).2.1.dy)], .int .i64 (datR wd ht xs k).2.2])) := by
  obtain ⟨pa_x1, pb_x1, pc_x1⟩ := (((Bx.new_ w (w.heap.size) 26 #[.int .i64 wd, .int .i64 ht, .slice A xs.length c] (by simp)).alloc (.cells #[.int .i64 0, .int .i64 0, .int .i64 0, .int .i64 0] 45)).alloc (.cells #[.int .i64 0, .int .i64 0, .int .i64 0, .int .i64 0] 45)).three
  obtain ⟨ra_x1, rb_x1, rc_x1, rd_x1⟩ := ((Bx.new_ (w.alloc (.cells #[.int .i64 wd, .int .i64 ht, .slice A xs.length c] 26)) (w.heap.size + 1) 45 #[.int .i64 0, .int .i64 0, .int .i64 0, .int .i64 0] (by simp)).alloc (.cells #[.int .i64 0, .int .i64 0, .int .i64 0, .int .i64 0] 45)).four
  have rf0_x1 := ((Bx.new_ (w.alloc (.cells #[.int .i64 wd, .int .i64 ht, .slice A xs.length c] 26)) (w.heap.size + 1) 45 #[.int .i64 0, .int .i64 0, .int .i64 0, .int .i64 0] (by simp)).alloc (.cells #[.int .i64 0, .int .i64 0, .int .i64 0, .int .i64 0] 45)).frozen 0
  have rf1_x1 := ((Bx.new_ (w.alloc (.cells #[.int .i64 wd, .int .i64 ht, .slice A xs.length c] 26)) (w.heap.size + 1) 45 #[.int .i64 0, .int .i64 0, .int .i64 0, .int .i64 0] (by simp)).alloc (.cells #[.int .i64 0, .int .i64 0, .int .i64 0, .int .i64 0] 45)).frozen 1
  have rf2_x1 := ((Bx.new_ (w.alloc (.cells #[.int .i64 wd, .int .i64 ht, .slice A xs.length c] 26)) (w.heap.size + 1) 45 #[.int .i64 0, .int .i64 0, .int .i64 0, .int .i64 0] (by simp)).alloc (.cells #[.int .i64 0, .int .i64 0, .int .i64 0, .int .i64 0] 45)).frozen 2
  have rf3_x1 := ((Bx.new_ (w.alloc (.cells #[.int .i64 wd, .int .i64 ht, .slice A xs.length c] 26)) (w.heap.size + 1) 45 #[.int .i64 0, .int .i64 0, .int .i64 0, .int .i64 0] (by simp)).alloc (.cells #[.int .i64 0, .int .i64 0, .int .i64 0, .int .i64 0] 45)).frozen 3
  obtain ⟨qa_x1, qb_x1, qc_x1, qd_x1⟩ := (Bx.new_ ((w.alloc (.cells #[.int .i64 wd, .int .i64 ht, .slice A xs.length c] 26)).alloc (.cells #[.int .i64 0, .int .i64 0, .int .i64 0, .int .i64 0] 45)) (w.heap.size + 1 + 1) 45 #[.int .i64 0, .int .i64 0, .int .i64 0, .int .i64 0] (by simp)).four
  have qf0_x1 := (Bx.new_ ((w.alloc (.cells #[.int .i64 wd, .int .i64 ht, .slice A xs.length c] 26)).alloc (.cells #[.int .i64 0, .int .i64 0, .int .i64 0, .int .i64 0] 45)) (w.heap.size + 1 + 1) 45 #[.int .i64 0, .int .i64 0, .int .i64 0, .int .i64 0] (by simp)).frozen 0
  have qf1_x1 := (Bx.new_ ((w.alloc (.cells #[.int .i64 wd, .int .i64 ht, .slice A xs.length c] 26)).alloc (.cells #[.int .i64 0, .int .i64 0, .int .i64 0, .int .i64 0] 45)) (w.heap.size + 1 + 1) 45 #[.int .i64 0, .int .i64 0, .int .i64 0, .int .i64 0] (by simp)).frozen 1
  have qf2_x1 := (Bx.new_ ((w.alloc (.cells #[.int .i64 wd, .int .i64 ht, .slice A xs.length c] 26)).alloc (.cells #[.int .i64 0, .int .i64 0, .int .i64 0, .int .i64 0] 45)) (w.heap.size + 1 + 1) 45 #[.int .i64 0, .int .i64 0, .int .i64 0, .int .i64 0] (by simp)).frozen 2
  have qf3_x1 := (Bx.new_ ((w.alloc (.cells #[.int .i64 wd, .int .i64 ht, .slice A xs.length c] 26)).alloc (.cells #[.int .i64 0, .int .i64 0, .int .i64 0, .int .i64 0] 45)) (w.heap.size + 1 + 1) 45 #[.int .i64 0, .int .i64 0, .int .i64 0, .int .i64 0] (by simp)).frozen 3
  have HCODE := hide (fun k => crossingNumberCode_any wd ht A c xs k (((w.alloc (.cells #[.int .i64 wd, .int .i64 ht, .slice A xs.length c] 26)).alloc (.cells #[.int .i64 0, .int .i64 0, .int .i64 0, .int .i64 0] 45)).alloc (.cells #[.int .i64 0, .int .i64 0, .int .i64 0, .int .i64 0] 45)) (hxs.below ((((Below.refl w.heap.size w).alloc (by first | omega | (simp; omega) | simp) (.cells #[.int .i64 wd, .int .i64 ht, .slice A xs.length c] 26)).alloc (by first | omega | (simp; omega) | simp) (.cells #[.int .i64 0, .int .i64 0, .int .i64 0, .int .i64 0] 45)).alloc (by first | omega | (simp; omega) | simp) (.cells #[.int .i64 0, .int .i64 0, .int .i64 0, .int .i64 0] 45))) hn)
  by_cases h0 : crC wd ht xs k = 0
  · obtain ⟨hv, hk0, hk1⟩ := crC_zero h0
    obtain ⟨hs, hl⟩ := vld_sz hv
    obtain ⟨K, rfl⟩ : ∃ K : Nat, k = (K : Int) := ⟨k.toNat, by omega⟩
    rw [Int.toNat_natCast] at hk1
    obtain ⟨a, b, ha, hb, _, _⟩ := dir_two hs hl (k := K) hk1
    have HR := hide (datR_ok h0 ha hb)
    have HLEN := hide (fun b => dir_len (b := b) (xs := xs) hs hl)
    have HC0 := hide h0
    have HA := hide ha
    have HBB := hide hb
    obtain ⟨n, hnn⟩ : ∃ n, n = crN xs := ⟨_, rfl⟩
    have e9 : (zTo xs xs.length).length = n := by rw [hnn]; rfl
    have hnl : n ≤ 1048576 := by rw [hnn]; exact Nat.le_trans (crN_le xs) hn
    rw [e9] at HLEN
    rw [← hnn] at hk1
    clear h0 ha hb e9 hnn hk0
    go_enter Try.func21, Try.ntmps21
    go_wp2_with fail
    refine ((HCODE.out _)).mono ?_
    rintro e w1 ⟨rfl, hb1⟩
    have p_1 := (((Bx.new_ w (w.heap.size) 26 #[.int .i64 wd, .int .i64 ht, .slice A xs.length c] (by simp)).alloc (.cells #[.int .i64 0, .int .i64 0, .int .i64 0, .int .i64 0] 45)).alloc (.cells #[.int .i64 0, .int .i64 0, .int .i64 0, .int .i64 0] 45)).below hb1
    obtain ⟨pa_1, pb_1, pc_1⟩ := (p_1).three
    have r_1 := ((Bx.new_ (w.alloc (.cells #[.int .i64 wd, .int .i64 ht, .slice A xs.length c] 26)) (w.heap.size + 1) 45 #[.int .i64 0, .int .i64 0, .int .i64 0, .int .i64 0] (by simp)).alloc (.cells #[.int .i64 0, .int .i64 0, .int .i64 0, .int .i64 0] 45)).below hb1
    obtain ⟨ra_1, rb_1, rc_1, rd_1⟩ := (r_1).four
    have rf0_1 := (r_1).frozen 0
    have rf1_1 := (r_1).frozen 1
    have rf2_1 := (r_1).frozen 2
    have rf3_1 := (r_1).frozen 3
    have q_1 := (Bx.new_ ((w.alloc (.cells #[.int .i64 wd, .int .i64 ht, .slice A xs.length c] 26)).alloc (.cells #[.int .i64 0, .int .i64 0, .int .i64 0, .int .i64 0] 45)) (w.heap.size + 1 + 1) 45 #[.int .i64 0, .int .i64 0, .int .i64 0, .int .i64 0] (by simp)).below hb1
    obtain ⟨qa_1, qb_1, qc_1, qd_1⟩ := (q_1).four
    have qf0_1 := (q_1).frozen 0
    have qf1_1 := (q_1).frozen 1
    have qf2_1 := (q_1).frozen 2
    have qf3_1 := (q_1).frozen 3
    have z_1 : (((w.alloc (.cells #[.int .i64 wd, .int .i64 ht, .slice A xs.length c] 26)).alloc (.cells #[.int .i64 0, .int .i64 0, .int .i64 0, .int .i64 0] 45)).alloc (.cells #[.int .i64 0, .int .i64 0, .int .i64 0, .int .i64 0] 45)).heap.size ≤ w1.heap.size := hb1.size
    simp only [World.size_alloc] at z_1
    have B_1 := ((((Below.refl w.heap.size w).alloc (by first | omega | (simp; omega) | simp) (.cells #[.int .i64 wd, .int .i64 ht, .slice A xs.length c] 26)).alloc (by first | omega | (simp; omega) | simp) (.cells #[.int .i64 0, .int .i64 0, .int .i64 0, .int .i64 0] 45)).alloc (by first | omega | (simp; omega) | simp) (.cells #[.int .i64 0, .int .i64 0, .int .i64 0, .int .i64 0] 45)).trans (hb1.mono (by first | omega | (simp; omega) | simp))
    rw [HC0.out]
    go_wp2_with fail
    refine (directions_any wd ht A c xs _ (hxs.below (B_1)) hcap hs hl hn).mono ?_
    rintro e w2 ⟨C1, a1, C2, a2, C3, d1, C4, d2, rfl, ov, un, _, _, hb2⟩
    have p_2 := (p_1).below hb2
    obtain ⟨pa_2, pb_2, pc_2⟩ := (p_2).three
    have r_2 := (r_1).below hb2
    obtain ⟨ra_2, rb_2, rc_2, rd_2⟩ := (r_2).four
    have rf0_2 := (r_2).frozen 0
    have rf1_2 := (r_2).frozen 1
    have rf2_2 := (r_2).frozen 2
    have rf3_2 := (r_2).frozen 3
    have q_2 := (q_1).below hb2
    obtain ⟨qa_2, qb_2, qc_2, qd_2⟩ := (q_2).four
    have qf0_2 := (q_2).frozen 0
    have qf1_2 := (q_2).frozen 1
    have qf2_2 := (q_2).frozen 2
    have qf3_2 := (q_2).frozen 3
    have z_2 : w1.heap.size ≤ w2.heap.size := hb2.size
    have B_2 := (B_1).trans (hb2.mono (by first | omega | (simp; omega) | simp))
    rw [(HLEN.out true).1, (HLEN.out false).1]
    obtain ⟨g1, a', rfl, _, hg1, haa, oa, ob, oc, od, _⟩ := ov.wk (k := K) (by rw [(HLEN.out true).1]; exact hk1)
    obtain rfl : a = a' := by have h := HA.out; rw [haa] at h; injection h with h; exact h.symm
    obtain ⟨g2, b', rfl, _, hg2, hbb, ua, ub, uc, ud, _⟩ := un.wk (k := K) (by rw [(HLEN.out false).1]; exact hk1)
    obtain rfl : b = b' := by have h := HBB.out; rw [hbb] at h; injection h with h; exact h.symm
    have hgl1 := (ov.ge rfl).1
    have hgl2 := (un.ge rfl).1
    have hB2 := (B_2)
    clear haa hbb ov un
    have n1 : g1 ≠ w.heap.size + 1 := by omega
    have n2 : g2 ≠ w.heap.size + 1 := by omega
    have n3 : g1 ≠ w.heap.size + 1 + 1 := by omega
    have n4 : g2 ≠ w.heap.size + 1 + 1 := by omega
    have rq := q_2.far4 (b := w.heap.size + 1) (o0 := 0) (o1 := 1) (o2 := 2) (o3 := 3) (u0 := .int .i64 a.x) (u1 := .int .i64 a.y) (u2 := .int .i64 a.dx) (u3 := .int .i64 a.dy) (by omega)
    have HE1 := (r_2.put4 (u0 := .int .i64 a.x) (u1 := .int .i64 a.y) (u2 := .int .i64 a.dx) (u3 := .int .i64 a.dy)).far4 (b := w.heap.size + 1 + 1) (o0 := 0) (o1 := 1) (o2 := 2) (o3 := 3) (u0 := .int .i64 b.x) (u1 := .int .i64 b.y) (u2 := .int .i64 b.dx) (u3 := .int .i64 b.dy) (by omega)
    have HE2 := rq.put4 (u0 := .int .i64 b.x) (u1 := .int .i64 b.y) (u2 := .int .i64 b.dx) (u3 := .int .i64 b.dy)
    have HB9 := hide ((below_put4 (b := w.heap.size + 1 + 1) (o0 := 0) (o1 := 1) (o2 := 2) (o3 := 3) (u0 := .int .i64 b.x) (u1 := .int .i64 b.y) (u2 := .int .i64 b.dx) (u3 := .int .i64 b.dy) (below_put4 (b := w.heap.size + 1) (o0 := 0) (o1 := 1) (o2 := 2) (o3 := 3) (u0 := .int .i64 a.x) (u1 := .int .i64 a.y) (u2 := .int .i64 a.dx) (u3 := .int .i64 a.dy) hB2 (by omega)) (by omega)).drew)
    obtain ⟨ra_9, rb_9, rc_9, rd_9⟩ := HE1.four
    obtain ⟨qa_9, qb_9, qc_9, qd_9⟩ := HE2.four
    have HF := hide (And.intro (And.intro ra_9 (And.intro rb_9 (And.intro rc_9 rd_9))) (And.intro qa_9 (And.intro qb_9 (And.intro qc_9 qd_9))))
    clear rq HE1 HE2 ra_9 rb_9 rc_9 rd_9 qa_9 qb_9 qc_9 qd_9 r_2 q_2 r_1 q_1
    go_wp2_with fail
    go_region
    go_wp2_with fail
    obtain ⟨⟨ra_9, rb_9, rc_9, rd_9⟩, qa_9, qb_9, qc_9, qd_9⟩ := HF.out
    refine bodyPost_ret (v := .tuple #[.agg #[.int .i64 a.x, .int .i64 a.y, .int .i64 a.dx, .int .i64 a.dy], .agg #[.int .i64 b.x, .int .i64 b.y, .int .i64 b.dx, .int .i64 b.dy], .int .i64 0]) (by simp [results, Try.results21, go_sem, ra_9, rb_9, rc_9, rd_9, qa_9, qb_9, qc_9, qd_9]) rfl ?_
    rw [HR.out]
    exact ⟨rfl, HB9.out⟩
  ·
    have HR := hide (datR_no h0)
    obtain ⟨v, hvv⟩ : ∃ v, v = crC wd ht xs k := ⟨_, rfl⟩
    rw [← hvv] at HR h0
    have HVV := hide hvv
    have d0 : (v != 0) = true := by simpa using h0
    clear h0 hvv
    go_enter Try.func21, Try.ntmps21
    go_wp2_with fail
    refine ((HCODE.out _)).mono ?_
    rintro e w3 ⟨rfl, hb3⟩
    have p_3 := (((Bx.new_ w (w.heap.size) 26 #[.int .i64 wd, .int .i64 ht, .slice A xs.length c] (by simp)).alloc (.cells #[.int .i64 0, .int .i64 0, .int .i64 0, .int .i64 0] 45)).alloc (.cells #[.int .i64 0, .int .i64 0, .int .i64 0, .int .i64 0] 45)).below hb3
    obtain ⟨pa_3, pb_3, pc_3⟩ := (p_3).three
    have r_3 := ((Bx.new_ (w.alloc (.cells #[.int .i64 wd, .int .i64 ht, .slice A xs.length c] 26)) (w.heap.size + 1) 45 #[.int .i64 0, .int .i64 0, .int .i64 0, .int .i64 0] (by simp)).alloc (.cells #[.int .i64 0, .int .i64 0, .int .i64 0, .int .i64 0] 45)).below hb3
    obtain ⟨ra_3, rb_3, rc_3, rd_3⟩ := (r_3).four
    have rf0_3 := (r_3).frozen 0
    have rf1_3 := (r_3).frozen 1
    have rf2_3 := (r_3).frozen 2
    have rf3_3 := (r_3).frozen 3
    have q_3 := (Bx.new_ ((w.alloc (.cells #[.int .i64 wd, .int .i64 ht, .slice A xs.length c] 26)).alloc (.cells #[.int .i64 0, .int .i64 0, .int .i64 0, .int .i64 0] 45)) (w.heap.size + 1 + 1) 45 #[.int .i64 0, .int .i64 0, .int .i64 0, .int .i64 0] (by simp)).below hb3
    obtain ⟨qa_3, qb_3, qc_3, qd_3⟩ := (q_3).four
    have qf0_3 := (q_3).frozen 0
    have qf1_3 := (q_3).frozen 1
    have qf2_3 := (q_3).frozen 2
    have qf3_3 := (q_3).frozen 3
    have z_3 : (((w.alloc (.cells #[.int .i64 wd, .int .i64 ht, .slice A xs.length c] 26)).alloc (.cells #[.int .i64 0, .int .i64 0, .int .i64 0, .int .i64 0] 45)).alloc (.cells #[.int .i64 0, .int .i64 0, .int .i64 0, .int .i64 0] 45)).heap.size ≤ w3.heap.size := hb3.size
    simp only [World.size_alloc] at z_3
    have B_3 := ((((Below.refl w.heap.size w).alloc (by first | omega | (simp; omega) | simp) (.cells #[.int .i64 wd, .int .i64 ht, .slice A xs.length c] 26)).alloc (by first | omega | (simp; omega) | simp) (.cells #[.int .i64 0, .int .i64 0, .int .i64 0, .int .i64 0] 45)).alloc (by first | omega | (simp; omega) | simp) (.cells #[.int .i64 0, .int .i64 0, .int .i64 0, .int .i64 0] 45)).trans (hb3.mono (by first | omega | (simp; omega) | simp))
    rw [← HVV.out]
    have hr9 := ((((((((((r_3).set_ 0 (.int .i64 0)).set_ 1 (.int .i64 0)).set_ 2 (.int .i64 0)).set_ 3 (.int .i64 0)).far (p := ⟨(w.heap.size + 1 + 1), 0, none⟩) (by first | omega | (simp; omega) | simp) (.int .i64 0)).far (p := ⟨(w.heap.size + 1 + 1), 1, none⟩) (by first | omega | (simp; omega) | simp) (.int .i64 0)).far (p := ⟨(w.heap.size + 1 + 1), 2, none⟩) (by first | omega | (simp; omega) | simp) (.int .i64 0)).far (p := ⟨(w.heap.size + 1 + 1), 3, none⟩) (by first | omega | (simp; omega) | simp) (.int .i64 0))).four
    have hq9 := ((((((((((q_3).far (p := ⟨(w.heap.size + 1), 0, none⟩) (by first | omega | (simp; omega) | simp) (.int .i64 0)).far (p := ⟨(w.heap.size + 1), 1, none⟩) (by first | omega | (simp; omega) | simp) (.int .i64 0)).far (p := ⟨(w.heap.size + 1), 2, none⟩) (by first | omega | (simp; omega) | simp) (.int .i64 0)).far (p := ⟨(w.heap.size + 1), 3, none⟩) (by first | omega | (simp; omega) | simp) (.int .i64 0)).set_ 0 (.int .i64 0)).set_ 1 (.int .i64 0)).set_ 2 (.int .i64 0)).set_ 3 (.int .i64 0))).four
    have HRQ := hide (And.intro hr9 hq9)
    clear hr9 hq9
    go_wp2_with fail
    obtain ⟨⟨ra_9, rb_9, rc_9, rd_9⟩, qa_9, qb_9, qc_9, qd_9⟩ := HRQ.out
    refine bodyPost_ret (v := .tuple #[.agg #[.int .i64 0, .int .i64 0, .int .i64 0, .int .i64 0], .agg #[.int .i64 0, .int .i64 0, .int .i64 0, .int .i64 0], .int .i64 v]) (by simp [results, Try.results21, go_sem, ra_9, rb_9, rc_9, rd_9, qa_9, qb_9, qc_9, qd_9]) rfl ?_
    rw [HR.out]
    exact ⟨rfl, (((((((((B_3).setCell (p := ⟨(w.heap.size + 1), 0, none⟩) (by first | omega | (simp; omega) | simp) (.int .i64 0)).setCell (p := ⟨(w.heap.size + 1), 1, none⟩) (by first | omega | (simp; omega) | simp) (.int .i64 0)).setCell (p := ⟨(w.heap.size + 1), 2, none⟩) (by first | omega | (simp; omega) | simp) (.int .i64 0)).setCell (p := ⟨(w.heap.size + 1), 3, none⟩) (by first | omega | (simp; omega) | simp) (.int .i64 0)).setCell (p := ⟨(w.heap.size + 1 + 1), 0, none⟩) (by first | omega | (simp; omega) | simp) (.int .i64 0)).setCell (p := ⟨(w.heap.size + 1 + 1), 1, none⟩) (by first | omega | (simp; omega) | simp) (.int .i64 0)).setCell (p := ⟨(w.heap.size + 1 + 1), 2, none⟩) (by first | omega | (simp; omega) | simp) (.int .i64 0)).setCell (p := ⟨(w.heap.size + 1 + 1), 3, none⟩) (by first | omega | (simp; omega) | simp) (.int .i64 0))⟩
end Go.Proofs.Ytmjeafklafjakaa
