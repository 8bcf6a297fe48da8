/-
  The walk of the law FnPolys. Conditions: none.
-/
import Derived.Test.YtffiejlfnecanaaLPw
namespace Go.Proofs.Ytffiejlfnecanaa
open Go.RowKit
set_option linter.unusedVariables false

set_option maxRecDepth 20000 in
set_option maxHeartbeats 8000000 in
theorem walk_LPolys (w : World) (A0 : Option Addr) (c0 : Nat) (xs0 : List Int) (hx0 : ArgB w A0 c0 xs0) :
    Calls Try.prog 3 #[.slice A0 xs0.length c0] w fun e w' => e = .returned (.bool true) ∧ Below w.heap.size w w' := by
  obtain ⟨hl, hm, hr, hb⟩ := hx0
  by_cases hlong : 3000 < xs0.length
  · have hd := decide_eq_true hlong
    go_enter Try.func3, Try.ntmps3
    go_wp2_with fail
    refine (a2Long_any A0 none xs0.length 0 c0 0 w).mono ?_
    rintro e w1 ⟨rfl, rfl⟩
    rw [hd]
    go_wp2_with fail
    go_ret
    exact ⟨rfl, Below.refl _ _⟩
  · have hd := decide_eq_false hlong
    have hd0 : decide (3000 < (0 : Nat)) = false := rfl
    go_enter Try.func3, Try.ntmps3
    go_wp2_with fail
    refine (a2Long_any A0 none xs0.length 0 c0 0 w).mono ?_
    rintro e w0 ⟨rfl, rfl⟩
    rw [hd, hd0]
    go_wp2_with fail
    refine (a2Polys_any A0 c0 xs0 w hr hb (by omega)).mono ?_
    rintro e w1 ⟨q0, q1, q2, B0, B1, B2, d0, d1, d2, rfl, D0, D1, D2, oa, ob, oc, hb1⟩
    have z_1 : w.heap.size ≤ w1.heap.size := hb1.size
    have B_1 := (Below.refl w.heap.size w).trans (hb1.mono (by first | omega | (simp; omega) | simp))
    obtain ⟨x, u, v, p, q, E1, E2, E3, E4, V1, V2, E5, E6, E7, E8, S1, nx, nu, nv, np, nq⟩ := polys_law D0 D1 D2
    have n0 : q0.2.length ≤ 400 := by have := D0.len; omega
    have n1 : q1.2.length ≤ 400 := by have := D1.len; omega
    have n2 : q2.2.length ≤ 400 := by have := D2.len; omega
    have Z0 := hide (sumP_ok D0.vld)
    have Z1 := hide (sumP_ok D1.vld)
    have HE := hide (And.intro E1 (And.intro E2 (And.intro E3 (And.intro E4 (And.intro V1 (And.intro V2 (And.intro E5 (And.intro E6 (And.intro E7 (And.intro E8 S1))))))))))
    clear E1 E2 E3 E4 E5 E6 E7 E8 V1 V2 S1 D0 D1 D2 hd hd0 hlong hl hm hr hb
    obtain ⟨m, hm⟩ : ∃ m, m = sumW q0.2 := ⟨_, rfl⟩
    obtain ⟨n, hn⟩ : ∃ n, n = sumW q1.2 := ⟨_, rfl⟩
    rw [← hm] at Z0 HE
    rw [← hn] at Z1 HE
    clear hm hn
    obtain ⟨paa_x1, pab_x1⟩ := (((Bx.new_ w1 (w1.heap.size) 26 #[.int .i64 q0.1, .slice B0 q0.2.length d0] (by simp)).alloc (.cells #[.int .i64 q1.1, .slice B1 q1.2.length d1] 26)).alloc (.cells #[.int .i64 q2.1, .slice B2 q2.2.length d2] 26)).two
    obtain ⟨pba_x1, pbb_x1⟩ := ((Bx.new_ (w1.alloc (.cells #[.int .i64 q0.1, .slice B0 q0.2.length d0] 26)) (w1.heap.size + 1) 26 #[.int .i64 q1.1, .slice B1 q1.2.length d1] (by simp)).alloc (.cells #[.int .i64 q2.1, .slice B2 q2.2.length d2] 26)).two
    obtain ⟨pca_x1, pcb_x1⟩ := (Bx.new_ ((w1.alloc (.cells #[.int .i64 q0.1, .slice B0 q0.2.length d0] 26)).alloc (.cells #[.int .i64 q1.1, .slice B1 q1.2.length d1] 26)) (w1.heap.size + 1 + 1) 26 #[.int .i64 q2.1, .slice B2 q2.2.length d2] (by simp)).two
    go_wp2_with fail
    refine (implAddPolys_ok (HE.out.1) ((((oa).alloc (.cells #[.int .i64 q0.1, .slice B0 q0.2.length d0] 26)).alloc (.cells #[.int .i64 q1.1, .slice B1 q1.2.length d1] 26)).alloc (.cells #[.int .i64 q2.1, .slice B2 q2.2.length d2] 26)) n0 ((((ob).alloc (.cells #[.int .i64 q0.1, .slice B0 q0.2.length d0] 26)).alloc (.cells #[.int .i64 q1.1, .slice B1 q1.2.length d1] 26)).alloc (.cells #[.int .i64 q2.1, .slice B2 q2.2.length d2] 26)) n1).mono ?_
    rintro e w2 ⟨X2, e2, rfl, ox, hb2⟩
    have oa_2 := ((((oa).alloc (.cells #[.int .i64 q0.1, .slice B0 q0.2.length d0] 26)).alloc (.cells #[.int .i64 q1.1, .slice B1 q1.2.length d1] 26)).alloc (.cells #[.int .i64 q2.1, .slice B2 q2.2.length d2] 26)).below hb2
    have ob_2 := ((((ob).alloc (.cells #[.int .i64 q0.1, .slice B0 q0.2.length d0] 26)).alloc (.cells #[.int .i64 q1.1, .slice B1 q1.2.length d1] 26)).alloc (.cells #[.int .i64 q2.1, .slice B2 q2.2.length d2] 26)).below hb2
    have oc_2 := ((((oc).alloc (.cells #[.int .i64 q0.1, .slice B0 q0.2.length d0] 26)).alloc (.cells #[.int .i64 q1.1, .slice B1 q1.2.length d1] 26)).alloc (.cells #[.int .i64 q2.1, .slice B2 q2.2.length d2] 26)).below hb2
    have pa_2 := (((Bx.new_ w1 (w1.heap.size) 26 #[.int .i64 q0.1, .slice B0 q0.2.length d0] (by simp)).alloc (.cells #[.int .i64 q1.1, .slice B1 q1.2.length d1] 26)).alloc (.cells #[.int .i64 q2.1, .slice B2 q2.2.length d2] 26)).below hb2
    obtain ⟨paa_2, pab_2⟩ := (pa_2).two
    have pb_2 := ((Bx.new_ (w1.alloc (.cells #[.int .i64 q0.1, .slice B0 q0.2.length d0] 26)) (w1.heap.size + 1) 26 #[.int .i64 q1.1, .slice B1 q1.2.length d1] (by simp)).alloc (.cells #[.int .i64 q2.1, .slice B2 q2.2.length d2] 26)).below hb2
    obtain ⟨pba_2, pbb_2⟩ := (pb_2).two
    have pc_2 := (Bx.new_ ((w1.alloc (.cells #[.int .i64 q0.1, .slice B0 q0.2.length d0] 26)).alloc (.cells #[.int .i64 q1.1, .slice B1 q1.2.length d1] 26)) (w1.heap.size + 1 + 1) 26 #[.int .i64 q2.1, .slice B2 q2.2.length d2] (by simp)).below hb2
    obtain ⟨pca_2, pcb_2⟩ := (pc_2).two
    have z_2 : (((w1.alloc (.cells #[.int .i64 q0.1, .slice B0 q0.2.length d0] 26)).alloc (.cells #[.int .i64 q1.1, .slice B1 q1.2.length d1] 26)).alloc (.cells #[.int .i64 q2.1, .slice B2 q2.2.length d2] 26)).heap.size ≤ w2.heap.size := hb2.size
    simp only [World.size_alloc] at z_2
    have B_2 := ((((B_1).alloc (by first | omega | (simp; omega) | simp) (.cells #[.int .i64 q0.1, .slice B0 q0.2.length d0] 26)).alloc (by first | omega | (simp; omega) | simp) (.cells #[.int .i64 q1.1, .slice B1 q1.2.length d1] 26)).alloc (by first | omega | (simp; omega) | simp) (.cells #[.int .i64 q2.1, .slice B2 q2.2.length d2] 26)).trans (hb2.mono (by first | omega | (simp; omega) | simp))
    obtain ⟨paa_x2, pab_x2⟩ := ((pa_2).alloc (.cells #[.int .i64 x.1, .slice X2 x.2.length e2] 26)).two
    obtain ⟨pba_x2, pbb_x2⟩ := ((pb_2).alloc (.cells #[.int .i64 x.1, .slice X2 x.2.length e2] 26)).two
    obtain ⟨pca_x2, pcb_x2⟩ := ((pc_2).alloc (.cells #[.int .i64 x.1, .slice X2 x.2.length e2] 26)).two
    obtain ⟨pxa_x2, pxb_x2⟩ := (Bx.new_ w2 (w2.heap.size) 26 #[.int .i64 x.1, .slice X2 x.2.length e2] (by simp)).two
    go_wp2_with fail
    refine (implAddPolys_ok (HE.out.2.1) ((ob_2).alloc (.cells #[.int .i64 x.1, .slice X2 x.2.length e2] 26)) n1 ((oa_2).alloc (.cells #[.int .i64 x.1, .slice X2 x.2.length e2] 26)) n0).mono ?_
    rintro e w3 ⟨X3, e3, rfl, oy, hb3⟩
    have oa_3 := ((oa_2).alloc (.cells #[.int .i64 x.1, .slice X2 x.2.length e2] 26)).below hb3
    have ob_3 := ((ob_2).alloc (.cells #[.int .i64 x.1, .slice X2 x.2.length e2] 26)).below hb3
    have oc_3 := ((oc_2).alloc (.cells #[.int .i64 x.1, .slice X2 x.2.length e2] 26)).below hb3
    have pa_3 := ((pa_2).alloc (.cells #[.int .i64 x.1, .slice X2 x.2.length e2] 26)).below hb3
    obtain ⟨paa_3, pab_3⟩ := (pa_3).two
    have pb_3 := ((pb_2).alloc (.cells #[.int .i64 x.1, .slice X2 x.2.length e2] 26)).below hb3
    obtain ⟨pba_3, pbb_3⟩ := (pb_3).two
    have pc_3 := ((pc_2).alloc (.cells #[.int .i64 x.1, .slice X2 x.2.length e2] 26)).below hb3
    obtain ⟨pca_3, pcb_3⟩ := (pc_3).two
    have ox_3 := ((ox).alloc (.cells #[.int .i64 x.1, .slice X2 x.2.length e2] 26)).below hb3
    have px_3 := (Bx.new_ w2 (w2.heap.size) 26 #[.int .i64 x.1, .slice X2 x.2.length e2] (by simp)).below hb3
    obtain ⟨pxa_3, pxb_3⟩ := (px_3).two
    have z_3 : (w2.alloc (.cells #[.int .i64 x.1, .slice X2 x.2.length e2] 26)).heap.size ≤ w3.heap.size := hb3.size
    simp only [World.size_alloc] at z_3
    have B_3 := ((B_2).alloc (by first | omega | (simp; omega) | simp) (.cells #[.int .i64 x.1, .slice X2 x.2.length e2] 26)).trans (hb3.mono (by first | omega | (simp; omega) | simp))
    obtain ⟨paa_x3, pab_x3⟩ := ((pa_3).alloc (.cells #[.int .i64 x.1, .slice X3 x.2.length e3] 26)).two
    obtain ⟨pba_x3, pbb_x3⟩ := ((pb_3).alloc (.cells #[.int .i64 x.1, .slice X3 x.2.length e3] 26)).two
    obtain ⟨pca_x3, pcb_x3⟩ := ((pc_3).alloc (.cells #[.int .i64 x.1, .slice X3 x.2.length e3] 26)).two
    obtain ⟨pxa_x3, pxb_x3⟩ := ((px_3).alloc (.cells #[.int .i64 x.1, .slice X3 x.2.length e3] 26)).two
    obtain ⟨pya_x3, pyb_x3⟩ := (Bx.new_ w3 (w3.heap.size) 26 #[.int .i64 x.1, .slice X3 x.2.length e3] (by simp)).two
    go_wp2_with fail
    refine (implMulPolys_ok (HE.out.2.2.1) ((oa_3).alloc (.cells #[.int .i64 x.1, .slice X3 x.2.length e3] 26)) n0 ((ob_3).alloc (.cells #[.int .i64 x.1, .slice X3 x.2.length e3] 26)) n1).mono ?_
    rintro e w4 ⟨X4, e4, rfl, ou, hb4⟩
    have oa_4 := ((oa_3).alloc (.cells #[.int .i64 x.1, .slice X3 x.2.length e3] 26)).below hb4
    have ob_4 := ((ob_3).alloc (.cells #[.int .i64 x.1, .slice X3 x.2.length e3] 26)).below hb4
    have oc_4 := ((oc_3).alloc (.cells #[.int .i64 x.1, .slice X3 x.2.length e3] 26)).below hb4
    have pa_4 := ((pa_3).alloc (.cells #[.int .i64 x.1, .slice X3 x.2.length e3] 26)).below hb4
    obtain ⟨paa_4, pab_4⟩ := (pa_4).two
    have pb_4 := ((pb_3).alloc (.cells #[.int .i64 x.1, .slice X3 x.2.length e3] 26)).below hb4
    obtain ⟨pba_4, pbb_4⟩ := (pb_4).two
    have pc_4 := ((pc_3).alloc (.cells #[.int .i64 x.1, .slice X3 x.2.length e3] 26)).below hb4
    obtain ⟨pca_4, pcb_4⟩ := (pc_4).two
    have ox_4 := ((ox_3).alloc (.cells #[.int .i64 x.1, .slice X3 x.2.length e3] 26)).below hb4
    have px_4 := ((px_3).alloc (.cells #[.int .i64 x.1, .slice X3 x.2.length e3] 26)).below hb4
    obtain ⟨pxa_4, pxb_4⟩ := (px_4).two
    have oy_4 := ((oy).alloc (.cells #[.int .i64 x.1, .slice X3 x.2.length e3] 26)).below hb4
    have py_4 := (Bx.new_ w3 (w3.heap.size) 26 #[.int .i64 x.1, .slice X3 x.2.length e3] (by simp)).below hb4
    obtain ⟨pya_4, pyb_4⟩ := (py_4).two
    have z_4 : (w3.alloc (.cells #[.int .i64 x.1, .slice X3 x.2.length e3] 26)).heap.size ≤ w4.heap.size := hb4.size
    simp only [World.size_alloc] at z_4
    have B_4 := ((B_3).alloc (by first | omega | (simp; omega) | simp) (.cells #[.int .i64 x.1, .slice X3 x.2.length e3] 26)).trans (hb4.mono (by first | omega | (simp; omega) | simp))
    obtain ⟨paa_x4, pab_x4⟩ := ((pa_4).alloc (.cells #[.int .i64 u.1, .slice X4 u.2.length e4] 26)).two
    obtain ⟨pba_x4, pbb_x4⟩ := ((pb_4).alloc (.cells #[.int .i64 u.1, .slice X4 u.2.length e4] 26)).two
    obtain ⟨pca_x4, pcb_x4⟩ := ((pc_4).alloc (.cells #[.int .i64 u.1, .slice X4 u.2.length e4] 26)).two
    obtain ⟨pxa_x4, pxb_x4⟩ := ((px_4).alloc (.cells #[.int .i64 u.1, .slice X4 u.2.length e4] 26)).two
    obtain ⟨pya_x4, pyb_x4⟩ := ((py_4).alloc (.cells #[.int .i64 u.1, .slice X4 u.2.length e4] 26)).two
    obtain ⟨pua_x4, pub_x4⟩ := (Bx.new_ w4 (w4.heap.size) 26 #[.int .i64 u.1, .slice X4 u.2.length e4] (by simp)).two
    go_wp2_with fail
    refine (implMulPolys_ok (HE.out.2.2.2.1) ((ob_4).alloc (.cells #[.int .i64 u.1, .slice X4 u.2.length e4] 26)) n1 ((oa_4).alloc (.cells #[.int .i64 u.1, .slice X4 u.2.length e4] 26)) n0).mono ?_
    rintro e w5 ⟨X5, e5, rfl, ov, hb5⟩
    have oa_5 := ((oa_4).alloc (.cells #[.int .i64 u.1, .slice X4 u.2.length e4] 26)).below hb5
    have ob_5 := ((ob_4).alloc (.cells #[.int .i64 u.1, .slice X4 u.2.length e4] 26)).below hb5
    have oc_5 := ((oc_4).alloc (.cells #[.int .i64 u.1, .slice X4 u.2.length e4] 26)).below hb5
    have pa_5 := ((pa_4).alloc (.cells #[.int .i64 u.1, .slice X4 u.2.length e4] 26)).below hb5
    obtain ⟨paa_5, pab_5⟩ := (pa_5).two
    have pb_5 := ((pb_4).alloc (.cells #[.int .i64 u.1, .slice X4 u.2.length e4] 26)).below hb5
    obtain ⟨pba_5, pbb_5⟩ := (pb_5).two
    have pc_5 := ((pc_4).alloc (.cells #[.int .i64 u.1, .slice X4 u.2.length e4] 26)).below hb5
    obtain ⟨pca_5, pcb_5⟩ := (pc_5).two
    have ox_5 := ((ox_4).alloc (.cells #[.int .i64 u.1, .slice X4 u.2.length e4] 26)).below hb5
    have px_5 := ((px_4).alloc (.cells #[.int .i64 u.1, .slice X4 u.2.length e4] 26)).below hb5
    obtain ⟨pxa_5, pxb_5⟩ := (px_5).two
    have oy_5 := ((oy_4).alloc (.cells #[.int .i64 u.1, .slice X4 u.2.length e4] 26)).below hb5
    have py_5 := ((py_4).alloc (.cells #[.int .i64 u.1, .slice X4 u.2.length e4] 26)).below hb5
    obtain ⟨pya_5, pyb_5⟩ := (py_5).two
    have ou_5 := ((ou).alloc (.cells #[.int .i64 u.1, .slice X4 u.2.length e4] 26)).below hb5
    have pu_5 := (Bx.new_ w4 (w4.heap.size) 26 #[.int .i64 u.1, .slice X4 u.2.length e4] (by simp)).below hb5
    obtain ⟨pua_5, pub_5⟩ := (pu_5).two
    have z_5 : (w4.alloc (.cells #[.int .i64 u.1, .slice X4 u.2.length e4] 26)).heap.size ≤ w5.heap.size := hb5.size
    simp only [World.size_alloc] at z_5
    have B_5 := ((B_4).alloc (by first | omega | (simp; omega) | simp) (.cells #[.int .i64 u.1, .slice X4 u.2.length e4] 26)).trans (hb5.mono (by first | omega | (simp; omega) | simp))
    obtain ⟨paa_x5, pab_x5⟩ := ((pa_5).alloc (.cells #[.int .i64 u.1, .slice X5 u.2.length e5] 26)).two
    obtain ⟨pba_x5, pbb_x5⟩ := ((pb_5).alloc (.cells #[.int .i64 u.1, .slice X5 u.2.length e5] 26)).two
    obtain ⟨pca_x5, pcb_x5⟩ := ((pc_5).alloc (.cells #[.int .i64 u.1, .slice X5 u.2.length e5] 26)).two
    obtain ⟨pxa_x5, pxb_x5⟩ := ((px_5).alloc (.cells #[.int .i64 u.1, .slice X5 u.2.length e5] 26)).two
    obtain ⟨pya_x5, pyb_x5⟩ := ((py_5).alloc (.cells #[.int .i64 u.1, .slice X5 u.2.length e5] 26)).two
    obtain ⟨pua_x5, pub_x5⟩ := ((pu_5).alloc (.cells #[.int .i64 u.1, .slice X5 u.2.length e5] 26)).two
    obtain ⟨pva_x5, pvb_x5⟩ := (Bx.new_ w5 (w5.heap.size) 26 #[.int .i64 u.1, .slice X5 u.2.length e5] (by simp)).two
    go_wp2_with fail
    refine (specSamePoly_ok ((ox_5).alloc (.cells #[.int .i64 u.1, .slice X5 u.2.length e5] 26)) nx ((oy_5).alloc (.cells #[.int .i64 u.1, .slice X5 u.2.length e5] 26))).mono ?_
    rintro e w6 ⟨rfl, hb6⟩
    have oa_6 := ((oa_5).alloc (.cells #[.int .i64 u.1, .slice X5 u.2.length e5] 26)).below hb6
    have ob_6 := ((ob_5).alloc (.cells #[.int .i64 u.1, .slice X5 u.2.length e5] 26)).below hb6
    have oc_6 := ((oc_5).alloc (.cells #[.int .i64 u.1, .slice X5 u.2.length e5] 26)).below hb6
    have pa_6 := ((pa_5).alloc (.cells #[.int .i64 u.1, .slice X5 u.2.length e5] 26)).below hb6
    obtain ⟨paa_6, pab_6⟩ := (pa_6).two
    have pb_6 := ((pb_5).alloc (.cells #[.int .i64 u.1, .slice X5 u.2.length e5] 26)).below hb6
    obtain ⟨pba_6, pbb_6⟩ := (pb_6).two
    have pc_6 := ((pc_5).alloc (.cells #[.int .i64 u.1, .slice X5 u.2.length e5] 26)).below hb6
    obtain ⟨pca_6, pcb_6⟩ := (pc_6).two
    have ox_6 := ((ox_5).alloc (.cells #[.int .i64 u.1, .slice X5 u.2.length e5] 26)).below hb6
    have px_6 := ((px_5).alloc (.cells #[.int .i64 u.1, .slice X5 u.2.length e5] 26)).below hb6
    obtain ⟨pxa_6, pxb_6⟩ := (px_6).two
    have oy_6 := ((oy_5).alloc (.cells #[.int .i64 u.1, .slice X5 u.2.length e5] 26)).below hb6
    have py_6 := ((py_5).alloc (.cells #[.int .i64 u.1, .slice X5 u.2.length e5] 26)).below hb6
    obtain ⟨pya_6, pyb_6⟩ := (py_6).two
    have ou_6 := ((ou_5).alloc (.cells #[.int .i64 u.1, .slice X5 u.2.length e5] 26)).below hb6
    have pu_6 := ((pu_5).alloc (.cells #[.int .i64 u.1, .slice X5 u.2.length e5] 26)).below hb6
    obtain ⟨pua_6, pub_6⟩ := (pu_6).two
    have ov_6 := ((ov).alloc (.cells #[.int .i64 u.1, .slice X5 u.2.length e5] 26)).below hb6
    have pv_6 := (Bx.new_ w5 (w5.heap.size) 26 #[.int .i64 u.1, .slice X5 u.2.length e5] (by simp)).below hb6
    obtain ⟨pva_6, pvb_6⟩ := (pv_6).two
    have z_6 : (w5.alloc (.cells #[.int .i64 u.1, .slice X5 u.2.length e5] 26)).heap.size ≤ w6.heap.size := hb6.size
    simp only [World.size_alloc] at z_6
    have B_6 := ((B_5).alloc (by first | omega | (simp; omega) | simp) (.cells #[.int .i64 u.1, .slice X5 u.2.length e5] 26)).trans (hb6.mono (by first | omega | (simp; omega) | simp))
    go_wp2_with fail
    refine (specSamePoly_ok (ou_6) nu (ov_6)).mono ?_
    rintro e w7 ⟨rfl, hb7⟩
    have oa_7 := (oa_6).below hb7
    have ob_7 := (ob_6).below hb7
    have oc_7 := (oc_6).below hb7
    have pa_7 := (pa_6).below hb7
    obtain ⟨paa_7, pab_7⟩ := (pa_7).two
    have pb_7 := (pb_6).below hb7
    obtain ⟨pba_7, pbb_7⟩ := (pb_7).two
    have pc_7 := (pc_6).below hb7
    obtain ⟨pca_7, pcb_7⟩ := (pc_7).two
    have ox_7 := (ox_6).below hb7
    have px_7 := (px_6).below hb7
    obtain ⟨pxa_7, pxb_7⟩ := (px_7).two
    have oy_7 := (oy_6).below hb7
    have py_7 := (py_6).below hb7
    obtain ⟨pya_7, pyb_7⟩ := (py_7).two
    have ou_7 := (ou_6).below hb7
    have pu_7 := (pu_6).below hb7
    obtain ⟨pua_7, pub_7⟩ := (pu_7).two
    have ov_7 := (ov_6).below hb7
    have pv_7 := (pv_6).below hb7
    obtain ⟨pva_7, pvb_7⟩ := (pv_7).two
    have z_7 : w6.heap.size ≤ w7.heap.size := hb7.size
    have B_7 := (B_6).trans (hb7.mono (by first | omega | (simp; omega) | simp))
    go_wp2_with fail
    refine (specValidPoly_ok (HE.out.2.2.2.2.1) (ox_7) nx).mono ?_
    rintro e w8 ⟨rfl, hb8⟩
    have oa_8 := (oa_7).below hb8
    have ob_8 := (ob_7).below hb8
    have oc_8 := (oc_7).below hb8
    have pa_8 := (pa_7).below hb8
    obtain ⟨paa_8, pab_8⟩ := (pa_8).two
    have pb_8 := (pb_7).below hb8
    obtain ⟨pba_8, pbb_8⟩ := (pb_8).two
    have pc_8 := (pc_7).below hb8
    obtain ⟨pca_8, pcb_8⟩ := (pc_8).two
    have ox_8 := (ox_7).below hb8
    have px_8 := (px_7).below hb8
    obtain ⟨pxa_8, pxb_8⟩ := (px_8).two
    have ou_8 := (ou_7).below hb8
    have pu_8 := (pu_7).below hb8
    obtain ⟨pua_8, pub_8⟩ := (pu_8).two
    have z_8 : w7.heap.size ≤ w8.heap.size := hb8.size
    have B_8 := (B_7).trans (hb8.mono (by first | omega | (simp; omega) | simp))
    go_wp2_with fail
    refine (specValidPoly_ok (HE.out.2.2.2.2.2.1) (ou_8) nu).mono ?_
    rintro e w9 ⟨rfl, hb9⟩
    have oa_9 := (oa_8).below hb9
    have ob_9 := (ob_8).below hb9
    have oc_9 := (oc_8).below hb9
    have pa_9 := (pa_8).below hb9
    obtain ⟨paa_9, pab_9⟩ := (pa_9).two
    have pb_9 := (pb_8).below hb9
    obtain ⟨pba_9, pbb_9⟩ := (pb_9).two
    have pc_9 := (pc_8).below hb9
    obtain ⟨pca_9, pcb_9⟩ := (pc_9).two
    have ox_9 := (ox_8).below hb9
    have px_9 := (px_8).below hb9
    obtain ⟨pxa_9, pxb_9⟩ := (px_9).two
    have ou_9 := (ou_8).below hb9
    have pu_9 := (pu_8).below hb9
    obtain ⟨pua_9, pub_9⟩ := (pu_9).two
    have z_9 : w8.heap.size ≤ w9.heap.size := hb9.size
    have B_9 := (B_8).trans (hb9.mono (by first | omega | (simp; omega) | simp))
    go_wp2_with fail
    refine (implMulPolys_ok (HE.out.2.2.2.2.2.2.1) (ox_9) nx (oc_9) n2).mono ?_
    rintro e w10 ⟨X10, e10, rfl, ol, hb10⟩
    have oa_10 := (oa_9).below hb10
    have ob_10 := (ob_9).below hb10
    have oc_10 := (oc_9).below hb10
    have pa_10 := (pa_9).below hb10
    obtain ⟨paa_10, pab_10⟩ := (pa_10).two
    have pb_10 := (pb_9).below hb10
    obtain ⟨pba_10, pbb_10⟩ := (pb_10).two
    have pc_10 := (pc_9).below hb10
    obtain ⟨pca_10, pcb_10⟩ := (pc_10).two
    have ox_10 := (ox_9).below hb10
    have px_10 := (px_9).below hb10
    obtain ⟨pxa_10, pxb_10⟩ := (px_10).two
    have ou_10 := (ou_9).below hb10
    have pu_10 := (pu_9).below hb10
    obtain ⟨pua_10, pub_10⟩ := (pu_10).two
    have z_10 : w9.heap.size ≤ w10.heap.size := hb10.size
    have B_10 := (B_9).trans (hb10.mono (by first | omega | (simp; omega) | simp))
    obtain ⟨paa_x6, pab_x6⟩ := ((pa_10).alloc (.cells #[.int .i64 v.1, .slice X10 v.2.length e10] 26)).two
    obtain ⟨pba_x6, pbb_x6⟩ := ((pb_10).alloc (.cells #[.int .i64 v.1, .slice X10 v.2.length e10] 26)).two
    obtain ⟨pca_x6, pcb_x6⟩ := ((pc_10).alloc (.cells #[.int .i64 v.1, .slice X10 v.2.length e10] 26)).two
    obtain ⟨pua_x6, pub_x6⟩ := ((pu_10).alloc (.cells #[.int .i64 v.1, .slice X10 v.2.length e10] 26)).two
    obtain ⟨pla_x6, plb_x6⟩ := (Bx.new_ w10 (w10.heap.size) 26 #[.int .i64 v.1, .slice X10 v.2.length e10] (by simp)).two
    go_wp2_with fail
    refine (specMulPolys_ok (HE.out.2.2.2.2.2.2.2.1) ((oa_10).alloc (.cells #[.int .i64 v.1, .slice X10 v.2.length e10] 26)) n0 ((oc_10).alloc (.cells #[.int .i64 v.1, .slice X10 v.2.length e10] 26)) n2).mono ?_
    rintro e w11 ⟨X11, e11, rfl, op, hb11⟩
    have oa_11 := ((oa_10).alloc (.cells #[.int .i64 v.1, .slice X10 v.2.length e10] 26)).below hb11
    have ob_11 := ((ob_10).alloc (.cells #[.int .i64 v.1, .slice X10 v.2.length e10] 26)).below hb11
    have oc_11 := ((oc_10).alloc (.cells #[.int .i64 v.1, .slice X10 v.2.length e10] 26)).below hb11
    have pa_11 := ((pa_10).alloc (.cells #[.int .i64 v.1, .slice X10 v.2.length e10] 26)).below hb11
    obtain ⟨paa_11, pab_11⟩ := (pa_11).two
    have pb_11 := ((pb_10).alloc (.cells #[.int .i64 v.1, .slice X10 v.2.length e10] 26)).below hb11
    obtain ⟨pba_11, pbb_11⟩ := (pb_11).two
    have pc_11 := ((pc_10).alloc (.cells #[.int .i64 v.1, .slice X10 v.2.length e10] 26)).below hb11
    obtain ⟨pca_11, pcb_11⟩ := (pc_11).two
    have ou_11 := ((ou_10).alloc (.cells #[.int .i64 v.1, .slice X10 v.2.length e10] 26)).below hb11
    have pu_11 := ((pu_10).alloc (.cells #[.int .i64 v.1, .slice X10 v.2.length e10] 26)).below hb11
    obtain ⟨pua_11, pub_11⟩ := (pu_11).two
    have ol_11 := ((ol).alloc (.cells #[.int .i64 v.1, .slice X10 v.2.length e10] 26)).below hb11
    have pl_11 := (Bx.new_ w10 (w10.heap.size) 26 #[.int .i64 v.1, .slice X10 v.2.length e10] (by simp)).below hb11
    obtain ⟨pla_11, plb_11⟩ := (pl_11).two
    have z_11 : (w10.alloc (.cells #[.int .i64 v.1, .slice X10 v.2.length e10] 26)).heap.size ≤ w11.heap.size := hb11.size
    simp only [World.size_alloc] at z_11
    have B_11 := ((B_10).alloc (by first | omega | (simp; omega) | simp) (.cells #[.int .i64 v.1, .slice X10 v.2.length e10] 26)).trans (hb11.mono (by first | omega | (simp; omega) | simp))
    obtain ⟨paa_x7, pab_x7⟩ := ((pa_11).alloc (.cells #[.int .i64 p.1, .slice X11 p.2.length e11] 26)).two
    obtain ⟨pba_x7, pbb_x7⟩ := ((pb_11).alloc (.cells #[.int .i64 p.1, .slice X11 p.2.length e11] 26)).two
    obtain ⟨pca_x7, pcb_x7⟩ := ((pc_11).alloc (.cells #[.int .i64 p.1, .slice X11 p.2.length e11] 26)).two
    obtain ⟨pua_x7, pub_x7⟩ := ((pu_11).alloc (.cells #[.int .i64 p.1, .slice X11 p.2.length e11] 26)).two
    obtain ⟨pla_x7, plb_x7⟩ := ((pl_11).alloc (.cells #[.int .i64 p.1, .slice X11 p.2.length e11] 26)).two
    obtain ⟨ppa_x7, ppb_x7⟩ := (Bx.new_ w11 (w11.heap.size) 26 #[.int .i64 p.1, .slice X11 p.2.length e11] (by simp)).two
    go_wp2_with fail
    refine (specMulPolys_ok (HE.out.2.2.2.2.2.2.2.2.1) ((ob_11).alloc (.cells #[.int .i64 p.1, .slice X11 p.2.length e11] 26)) n1 ((oc_11).alloc (.cells #[.int .i64 p.1, .slice X11 p.2.length e11] 26)) n2).mono ?_
    rintro e w12 ⟨X12, e12, rfl, oq, hb12⟩
    have oa_12 := ((oa_11).alloc (.cells #[.int .i64 p.1, .slice X11 p.2.length e11] 26)).below hb12
    have ob_12 := ((ob_11).alloc (.cells #[.int .i64 p.1, .slice X11 p.2.length e11] 26)).below hb12
    have oc_12 := ((oc_11).alloc (.cells #[.int .i64 p.1, .slice X11 p.2.length e11] 26)).below hb12
    have pa_12 := ((pa_11).alloc (.cells #[.int .i64 p.1, .slice X11 p.2.length e11] 26)).below hb12
    obtain ⟨paa_12, pab_12⟩ := (pa_12).two
    have pb_12 := ((pb_11).alloc (.cells #[.int .i64 p.1, .slice X11 p.2.length e11] 26)).below hb12
    obtain ⟨pba_12, pbb_12⟩ := (pb_12).two
    have pc_12 := ((pc_11).alloc (.cells #[.int .i64 p.1, .slice X11 p.2.length e11] 26)).below hb12
    obtain ⟨pca_12, pcb_12⟩ := (pc_12).two
    have ou_12 := ((ou_11).alloc (.cells #[.int .i64 p.1, .slice X11 p.2.length e11] 26)).below hb12
    have pu_12 := ((pu_11).alloc (.cells #[.int .i64 p.1, .slice X11 p.2.length e11] 26)).below hb12
    obtain ⟨pua_12, pub_12⟩ := (pu_12).two
    have ol_12 := ((ol_11).alloc (.cells #[.int .i64 p.1, .slice X11 p.2.length e11] 26)).below hb12
    have pl_12 := ((pl_11).alloc (.cells #[.int .i64 p.1, .slice X11 p.2.length e11] 26)).below hb12
    obtain ⟨pla_12, plb_12⟩ := (pl_12).two
    have op_12 := ((op).alloc (.cells #[.int .i64 p.1, .slice X11 p.2.length e11] 26)).below hb12
    have pp_12 := (Bx.new_ w11 (w11.heap.size) 26 #[.int .i64 p.1, .slice X11 p.2.length e11] (by simp)).below hb12
    obtain ⟨ppa_12, ppb_12⟩ := (pp_12).two
    have z_12 : (w11.alloc (.cells #[.int .i64 p.1, .slice X11 p.2.length e11] 26)).heap.size ≤ w12.heap.size := hb12.size
    simp only [World.size_alloc] at z_12
    have B_12 := ((B_11).alloc (by first | omega | (simp; omega) | simp) (.cells #[.int .i64 p.1, .slice X11 p.2.length e11] 26)).trans (hb12.mono (by first | omega | (simp; omega) | simp))
    obtain ⟨paa_x8, pab_x8⟩ := ((pa_12).alloc (.cells #[.int .i64 q.1, .slice X12 q.2.length e12] 26)).two
    obtain ⟨pba_x8, pbb_x8⟩ := ((pb_12).alloc (.cells #[.int .i64 q.1, .slice X12 q.2.length e12] 26)).two
    obtain ⟨pua_x8, pub_x8⟩ := ((pu_12).alloc (.cells #[.int .i64 q.1, .slice X12 q.2.length e12] 26)).two
    obtain ⟨pla_x8, plb_x8⟩ := ((pl_12).alloc (.cells #[.int .i64 q.1, .slice X12 q.2.length e12] 26)).two
    obtain ⟨ppa_x8, ppb_x8⟩ := ((pp_12).alloc (.cells #[.int .i64 q.1, .slice X12 q.2.length e12] 26)).two
    obtain ⟨pqa_x8, pqb_x8⟩ := (Bx.new_ w12 (w12.heap.size) 26 #[.int .i64 q.1, .slice X12 q.2.length e12] (by simp)).two
    go_wp2_with fail
    refine (specAddPolys_ok (HE.out.2.2.2.2.2.2.2.2.2.1) ((op_12).alloc (.cells #[.int .i64 q.1, .slice X12 q.2.length e12] 26)) np ((oq).alloc (.cells #[.int .i64 q.1, .slice X12 q.2.length e12] 26)) nq).mono ?_
    rintro e w13 ⟨X13, e13, rfl, or, hb13⟩
    have oa_13 := ((oa_12).alloc (.cells #[.int .i64 q.1, .slice X12 q.2.length e12] 26)).below hb13
    have ob_13 := ((ob_12).alloc (.cells #[.int .i64 q.1, .slice X12 q.2.length e12] 26)).below hb13
    have pa_13 := ((pa_12).alloc (.cells #[.int .i64 q.1, .slice X12 q.2.length e12] 26)).below hb13
    obtain ⟨paa_13, pab_13⟩ := (pa_13).two
    have pb_13 := ((pb_12).alloc (.cells #[.int .i64 q.1, .slice X12 q.2.length e12] 26)).below hb13
    obtain ⟨pba_13, pbb_13⟩ := (pb_13).two
    have ou_13 := ((ou_12).alloc (.cells #[.int .i64 q.1, .slice X12 q.2.length e12] 26)).below hb13
    have pu_13 := ((pu_12).alloc (.cells #[.int .i64 q.1, .slice X12 q.2.length e12] 26)).below hb13
    obtain ⟨pua_13, pub_13⟩ := (pu_13).two
    have ol_13 := ((ol_12).alloc (.cells #[.int .i64 q.1, .slice X12 q.2.length e12] 26)).below hb13
    have pl_13 := ((pl_12).alloc (.cells #[.int .i64 q.1, .slice X12 q.2.length e12] 26)).below hb13
    obtain ⟨pla_13, plb_13⟩ := (pl_13).two
    have op_13 := ((op_12).alloc (.cells #[.int .i64 q.1, .slice X12 q.2.length e12] 26)).below hb13
    have pp_13 := ((pp_12).alloc (.cells #[.int .i64 q.1, .slice X12 q.2.length e12] 26)).below hb13
    obtain ⟨ppa_13, ppb_13⟩ := (pp_13).two
    have oq_13 := ((oq).alloc (.cells #[.int .i64 q.1, .slice X12 q.2.length e12] 26)).below hb13
    have pq_13 := (Bx.new_ w12 (w12.heap.size) 26 #[.int .i64 q.1, .slice X12 q.2.length e12] (by simp)).below hb13
    obtain ⟨pqa_13, pqb_13⟩ := (pq_13).two
    have z_13 : (w12.alloc (.cells #[.int .i64 q.1, .slice X12 q.2.length e12] 26)).heap.size ≤ w13.heap.size := hb13.size
    simp only [World.size_alloc] at z_13
    have B_13 := ((B_12).alloc (by first | omega | (simp; omega) | simp) (.cells #[.int .i64 q.1, .slice X12 q.2.length e12] 26)).trans (hb13.mono (by first | omega | (simp; omega) | simp))
    obtain ⟨paa_x9, pab_x9⟩ := ((pa_13).alloc (.cells #[.int .i64 v.1, .slice X13 v.2.length e13] 26)).two
    obtain ⟨pba_x9, pbb_x9⟩ := ((pb_13).alloc (.cells #[.int .i64 v.1, .slice X13 v.2.length e13] 26)).two
    obtain ⟨pua_x9, pub_x9⟩ := ((pu_13).alloc (.cells #[.int .i64 v.1, .slice X13 v.2.length e13] 26)).two
    obtain ⟨pla_x9, plb_x9⟩ := ((pl_13).alloc (.cells #[.int .i64 v.1, .slice X13 v.2.length e13] 26)).two
    obtain ⟨pra_x9, prb_x9⟩ := (Bx.new_ w13 (w13.heap.size) 26 #[.int .i64 v.1, .slice X13 v.2.length e13] (by simp)).two
    go_wp2_with fail
    refine (specSamePoly_ok ((ol_13).alloc (.cells #[.int .i64 v.1, .slice X13 v.2.length e13] 26)) nv ((or).alloc (.cells #[.int .i64 v.1, .slice X13 v.2.length e13] 26))).mono ?_
    rintro e w14 ⟨rfl, hb14⟩
    have oa_14 := ((oa_13).alloc (.cells #[.int .i64 v.1, .slice X13 v.2.length e13] 26)).below hb14
    have ob_14 := ((ob_13).alloc (.cells #[.int .i64 v.1, .slice X13 v.2.length e13] 26)).below hb14
    have pa_14 := ((pa_13).alloc (.cells #[.int .i64 v.1, .slice X13 v.2.length e13] 26)).below hb14
    obtain ⟨paa_14, pab_14⟩ := (pa_14).two
    have pb_14 := ((pb_13).alloc (.cells #[.int .i64 v.1, .slice X13 v.2.length e13] 26)).below hb14
    obtain ⟨pba_14, pbb_14⟩ := (pb_14).two
    have ou_14 := ((ou_13).alloc (.cells #[.int .i64 v.1, .slice X13 v.2.length e13] 26)).below hb14
    have pu_14 := ((pu_13).alloc (.cells #[.int .i64 v.1, .slice X13 v.2.length e13] 26)).below hb14
    obtain ⟨pua_14, pub_14⟩ := (pu_14).two
    have ol_14 := ((ol_13).alloc (.cells #[.int .i64 v.1, .slice X13 v.2.length e13] 26)).below hb14
    have pl_14 := ((pl_13).alloc (.cells #[.int .i64 v.1, .slice X13 v.2.length e13] 26)).below hb14
    obtain ⟨pla_14, plb_14⟩ := (pl_14).two
    have or_14 := ((or).alloc (.cells #[.int .i64 v.1, .slice X13 v.2.length e13] 26)).below hb14
    have pr_14 := (Bx.new_ w13 (w13.heap.size) 26 #[.int .i64 v.1, .slice X13 v.2.length e13] (by simp)).below hb14
    obtain ⟨pra_14, prb_14⟩ := (pr_14).two
    have z_14 : (w13.alloc (.cells #[.int .i64 v.1, .slice X13 v.2.length e13] 26)).heap.size ≤ w14.heap.size := hb14.size
    simp only [World.size_alloc] at z_14
    have B_14 := ((B_13).alloc (by first | omega | (simp; omega) | simp) (.cells #[.int .i64 v.1, .slice X13 v.2.length e13] 26)).trans (hb14.mono (by first | omega | (simp; omega) | simp))
    go_wp2_with fail
    refine (implPolySum_ok Z0.out (oa_14) n0).mono ?_
    rintro e w15 ⟨rfl, hb15⟩
    have oa_15 := (oa_14).below hb15
    have ob_15 := (ob_14).below hb15
    have pa_15 := (pa_14).below hb15
    obtain ⟨paa_15, pab_15⟩ := (pa_15).two
    have pb_15 := (pb_14).below hb15
    obtain ⟨pba_15, pbb_15⟩ := (pb_15).two
    have ou_15 := (ou_14).below hb15
    have pu_15 := (pu_14).below hb15
    obtain ⟨pua_15, pub_15⟩ := (pu_15).two
    have z_15 : w14.heap.size ≤ w15.heap.size := hb15.size
    have B_15 := (B_14).trans (hb15.mono (by first | omega | (simp; omega) | simp))
    go_wp2_with fail
    refine (implPolySum_ok Z1.out (ob_15) n1).mono ?_
    rintro e w16 ⟨rfl, hb16⟩
    have oa_16 := (oa_15).below hb16
    have ob_16 := (ob_15).below hb16
    have pa_16 := (pa_15).below hb16
    obtain ⟨paa_16, pab_16⟩ := (pa_16).two
    have pb_16 := (pb_15).below hb16
    obtain ⟨pba_16, pbb_16⟩ := (pb_16).two
    have ou_16 := (ou_15).below hb16
    have pu_16 := (pu_15).below hb16
    obtain ⟨pua_16, pub_16⟩ := (pu_16).two
    have z_16 : w15.heap.size ≤ w16.heap.size := hb16.size
    have B_16 := (B_15).trans (hb16.mono (by first | omega | (simp; omega) | simp))
    go_wp2_with fail
    refine (implPolySum_ok (HE.out.2.2.2.2.2.2.2.2.2.2) (ou_16) nu).mono ?_
    rintro e w17 ⟨rfl, hb17⟩
    have oa_17 := (oa_16).below hb17
    have ob_17 := (ob_16).below hb17
    have pa_17 := (pa_16).below hb17
    obtain ⟨paa_17, pab_17⟩ := (pa_17).two
    have pb_17 := (pb_16).below hb17
    obtain ⟨pba_17, pbb_17⟩ := (pb_17).two
    have ou_17 := (ou_16).below hb17
    have pu_17 := (pu_16).below hb17
    obtain ⟨pua_17, pub_17⟩ := (pu_17).two
    have z_17 : w16.heap.size ≤ w17.heap.size := hb17.size
    have B_17 := (B_16).trans (hb17.mono (by first | omega | (simp; omega) | simp))
    go_wp2_with fail

    go_ret
    exact ⟨by simp, (B_17)⟩
end Go.Proofs.Ytffiejlfnecanaa
