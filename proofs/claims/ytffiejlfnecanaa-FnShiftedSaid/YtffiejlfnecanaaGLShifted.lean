/-
  The walk of the law FnShifted. Conditions: none.
-/
import Derived.Test.YtffiejlfnecanaaLPw
namespace Go.Proofs.Ytffiejlfnecanaa
open Go.RowKit
set_option linter.unusedVariables false

theorem a2At_any (A : Option Addr) (c : Nat) (xs : List Int) (k : Nat) (K n : Int) (w : World) (h : RB w A xs) (hx : ∀ x ∈ xs, 0 ≤ x ∧ x ≤ 255) (hK : K = (k : Int)) (hk : k ≤ 1000) (h1 : 1 ≤ n) (h2 : n ≤ 1000) :
    Calls Try.prog 14 #[.slice A xs.length c, .int .i64 K, .int .i64 n] w fun e w' => ∃ x : Int, e = .returned (.int .i64 x) ∧ 0 ≤ x ∧ x < n ∧ w = w' := by
  subst hK
  have d4 : n ≠ 0 := by omega
  have d5 : ¬ (n < 1) := by omega
  by_cases hlt : k < xs.length
  · obtain ⟨g, off, x, rfl, hg, hxk, hgc⟩ := h.at_ hlt
    have hxb := hx x (List.mem_of_getElem? hxk)
    have d1 : ¬ ((xs.length : Int) ≤ (k : Int)) := by omega
    have d2 : (k : Int) < (xs.length : Int) := by omega
    go_enter Try.func14, Try.ntmps14
    go_wp2_with fail
    go_ret
    exact ⟨_, rfl, Int.emod_nonneg _ d4, Int.emod_lt_of_pos _ (by omega), rfl⟩
  · have d1 : (xs.length : Int) ≤ (k : Int) := by omega
    go_enter Try.func14, Try.ntmps14
    go_wp2_with fail
    go_ret
    exact ⟨_, rfl, by omega, by omega, rfl⟩
theorem str_ne {P : Program} (W : World) (t : TypeId) {l : List UInt8} (h : l ≠ []) : (binOp .neq t (str l) (.string ⟨#[]⟩)).run P W = .ok (.bool true) W := by
  unfold str
  rw [binOp_string_neq]
  have : ((⟨l.toArray⟩ : ByteArray).toList == (⟨#[]⟩ : ByteArray).toList) = false := by
    rw [ByteArray.toList_mk, show (⟨#[]⟩ : ByteArray).toList = [] from ByteArray.toList_mk []]
    cases l with
    | nil => exact absurd rfl h
    | cons a r => rfl
  rw [this]
  rfl
theorem RB.alloc {w : World} {A : Option Addr} {xs : List Int} (h : RB w A xs) (o : Obj) : RB (w.alloc o) A xs := Rd.alloc h o
theorem own_far2 {w : World} {b : Nat} {o0 o1 : Nat} {u0 u1 : Value} {base : Nat} {A : Option Addr} {c : Nat} {xs : List Int} (h : OwnI w base A c xs) (hb : ∀ g, blk A = some g → g ≠ b) : OwnI ((w.setCell ⟨b, o0, none⟩ u0).setCell ⟨b, o1, none⟩ u1) base A c xs := by
  have e : ∀ {W : World} {o : Nat} {u : Value}, OwnI W base A c xs → OwnI (W.setCell ⟨b, o, none⟩ u) base A c xs := fun {W o u} hw => hw.keep fun b' _ h2 => Below.heap_setCell W ⟨b, o, none⟩ u b' (hb b' h2)
  exact e (e h)
theorem blk_inj_ {a b : Nat} (h : blk (some ⟨a, 0, none⟩) = some b) : a = b := by simpa [blk] using h
theorem termP_zero (p : Int) : termP p 0 = (0, []) := rfl
theorem termP_some {p t : Int} (h : t ≠ 0) : termP p t = (p, [t]) := if_neg h

set_option maxRecDepth 20000 in
set_option maxHeartbeats 8000000 in
theorem walk_LShifted (w : World) (A0 : Option Addr) (c0 : Nat) (xs0 : List Int) (hx0 : ArgB w A0 c0 xs0) (A1 : Option Addr) (c1 : Nat) (xs1 : List Int) (hx1 : ArgB w A1 c1 xs1) :
    Calls Try.prog 4 #[.slice A0 xs0.length c0, .slice A1 xs1.length c1] w fun e w' => e = .returned (.bool true) ∧ Below w.heap.size w w' := by
  obtain ⟨hl, hm, hr, hb⟩ := hx0
  obtain ⟨hl1, hm1, hr1, hb1⟩ := hx1
  by_cases hlong : (decide (3000 < xs0.length) || decide (3000 < xs1.length)) = true
  · go_enter Try.func4, Try.ntmps4
    go_wp2_with fail
    refine (a2Long_any A0 A1 xs0.length xs1.length c0 c1 w).mono ?_
    rintro e w1 ⟨rfl, rfl⟩
    rw [hlong]
    go_wp2_with fail
    go_ret
    exact ⟨rfl, Below.refl _ _⟩
  · have hd : (decide (3000 < xs0.length) || decide (3000 < xs1.length)) = false := by simpa using hlong
    have hlen : xs0.length ≤ 3000 := by
      simp only [Bool.or_eq_false_iff, decide_eq_false_iff_not] at hd
      omega
    have HB1 := hide hb1
    go_enter Try.func4, Try.ntmps4
    go_wp2_with fail
    refine (a2Long_any A0 A1 xs0.length xs1.length c0 c1 w).mono ?_
    rintro e w0 ⟨rfl, rfl⟩
    rw [hd]
    go_wp2_with fail
    refine (a2Polys_any A0 c0 xs0 w hr hb (by omega)).mono ?_
    rintro e w1 ⟨q0, q1, q2, B0, B1, B2, d0, d1, d2, rfl, D0, D1, D2, oa, ob, oc, hb1⟩
    have more_1 := (hr1).below hb1
    have z_1 : w.heap.size ≤ w1.heap.size := hb1.size
    have B_1 := (Below.refl w.heap.size w).trans (hb1.mono (by first | omega | (simp; omega) | simp))
    have n0 : q0.2.length ≤ 400 := by have := D0.len; omega
    have n1 : q1.2.length ≤ 400 := by have := D1.len; omega
    have HD0 := hide D0
    have HD1 := hide D1
    clear D0 D1 D2 oc hd hlong hl hm hr hb hlen
    obtain ⟨paa_x1, pab_x1⟩ := (((Bx.new_ w1 (w1.heap.size) 26 #[.int .i64 q0.1, .slice B0 q0.2.length d0] (by simp)).alloc (.cells #[.int .i64 q1.1, .slice B1 q1.2.length d1] 26)).alloc (.cells #[.int .i64 q2.1, .slice B2 q2.2.length d2] 26)).two
    obtain ⟨pba_x1, pbb_x1⟩ := ((Bx.new_ (w1.alloc (.cells #[.int .i64 q0.1, .slice B0 q0.2.length d0] 26)) (w1.heap.size + 1) 26 #[.int .i64 q1.1, .slice B1 q1.2.length d1] (by simp)).alloc (.cells #[.int .i64 q2.1, .slice B2 q2.2.length d2] 26)).two
    go_wp2_with fail
    refine (a2At_any A1 c1 xs1 0 0 21 _ ((((more_1).alloc (.cells #[.int .i64 q0.1, .slice B0 q0.2.length d0] 26)).alloc (.cells #[.int .i64 q1.1, .slice B1 q1.2.length d1] 26)).alloc (.cells #[.int .i64 q2.1, .slice B2 q2.2.length d2] 26)) HB1.out rfl (by omega) (by omega) (by omega)).mono ?_
    rintro e w2 ⟨p0, rfl, hp0, hp1, rfl⟩
    have hwp : IntKind.i64.wrap (p0 - 10) = p0 - 10 := by rw [IntKind.wrap_i64]; omega
    go_wp2_with fail
    refine (a2At_any A1 c1 xs1 1 1 9 _ ((((more_1).alloc (.cells #[.int .i64 q0.1, .slice B0 q0.2.length d0] 26)).alloc (.cells #[.int .i64 q1.1, .slice B1 q1.2.length d1] 26)).alloc (.cells #[.int .i64 q2.1, .slice B2 q2.2.length d2] 26)) HB1.out rfl (by omega) (by omega) (by omega)).mono ?_
    rintro e w2 ⟨t0, rfl, ht0, ht1, rfl⟩
    have hwt : IntKind.i64.wrap (t0 - 4) = t0 - 4 := by rw [IntKind.wrap_i64]; omega
    obtain ⟨x, u, v, q, r, E1, E2, E3, V1, E4, E5, E6, E7, E8, nx, nu, nv, nq, nr⟩ := shifted_law HD0.out HD1.out (p := p0 - 10) (t := t0 - 4) (by omega) (by omega)
    have HE := hide (And.intro E1 (And.intro E2 (And.intro E3 (And.intro V1 (And.intro E4 (And.intro E5 (And.intro E6 (And.intro E7 E8))))))))
    obtain ⟨tx, htx⟩ : ∃ tx : ByteArray, tx = ⟨(polyT q0.1 q0.2).toArray⟩ := ⟨_, rfl⟩
    have htl : tx.toList = polyT q0.1 q0.2 := by rw [htx, ByteArray.toList_mk]
    have htne : tx.toList ≠ [] := by rw [htl]; exact text_ne HD0.out
    have htb : (tx.toList == []) = false := by simpa using htne
    have HTXX : Hid (∀ (W : World) (b0 : Nat) (X : Option Addr) (d : Nat), OwnI W b0 X d q0.2 → Calls Try.prog 18 #[.agg #[.int .i64 q0.1, .slice X q0.2.length d]] W (RetV W (.string tx))) := hide fun W b0 X d ho => by
      rw [htx]
      exact implPolyText_any q0.1 X d q0.2 W ho.rd (by omega)
    have HTB := hide (And.intro htne htb)
    clear E1 E2 E3 E4 E5 E6 E7 E8 V1 htx htne htl htb
    go_wp2_with fail
    refine (implShiftPoly_ok HE.out.1 ((((oa).alloc (.cells #[.int .i64 q0.1, .slice B0 q0.2.length d0] 26)).alloc (.cells #[.int .i64 q1.1, .slice B1 q1.2.length d1] 26)).alloc (.cells #[.int .i64 q2.1, .slice B2 q2.2.length d2] 26)) n0).mono ?_
    rintro e w2 ⟨X2, e2, rfl, ox, hb2⟩
    have oa_2 := ((((oa).alloc (.cells #[.int .i64 q0.1, .slice B0 q0.2.length d0] 26)).alloc (.cells #[.int .i64 q1.1, .slice B1 q1.2.length d1] 26)).alloc (.cells #[.int .i64 q2.1, .slice B2 q2.2.length d2] 26)).below hb2
    have ob_2 := ((((ob).alloc (.cells #[.int .i64 q0.1, .slice B0 q0.2.length d0] 26)).alloc (.cells #[.int .i64 q1.1, .slice B1 q1.2.length d1] 26)).alloc (.cells #[.int .i64 q2.1, .slice B2 q2.2.length d2] 26)).below hb2
    have pa_2 := (((Bx.new_ w1 (w1.heap.size) 26 #[.int .i64 q0.1, .slice B0 q0.2.length d0] (by simp)).alloc (.cells #[.int .i64 q1.1, .slice B1 q1.2.length d1] 26)).alloc (.cells #[.int .i64 q2.1, .slice B2 q2.2.length d2] 26)).below hb2
    obtain ⟨paa_2, pab_2⟩ := (pa_2).two
    have pb_2 := ((Bx.new_ (w1.alloc (.cells #[.int .i64 q0.1, .slice B0 q0.2.length d0] 26)) (w1.heap.size + 1) 26 #[.int .i64 q1.1, .slice B1 q1.2.length d1] (by simp)).alloc (.cells #[.int .i64 q2.1, .slice B2 q2.2.length d2] 26)).below hb2
    obtain ⟨pba_2, pbb_2⟩ := (pb_2).two
    have pc_2 := (Bx.new_ ((w1.alloc (.cells #[.int .i64 q0.1, .slice B0 q0.2.length d0] 26)).alloc (.cells #[.int .i64 q1.1, .slice B1 q1.2.length d1] 26)) (w1.heap.size + 1 + 1) 26 #[.int .i64 q2.1, .slice B2 q2.2.length d2] (by simp)).below hb2
    obtain ⟨pca_2, pcb_2⟩ := (pc_2).two
    have z_2 : (((w1.alloc (.cells #[.int .i64 q0.1, .slice B0 q0.2.length d0] 26)).alloc (.cells #[.int .i64 q1.1, .slice B1 q1.2.length d1] 26)).alloc (.cells #[.int .i64 q2.1, .slice B2 q2.2.length d2] 26)).heap.size ≤ w2.heap.size := hb2.size
    simp only [World.size_alloc] at z_2
    have B_2 := ((((B_1).alloc (by first | omega | (simp; omega) | simp) (.cells #[.int .i64 q0.1, .slice B0 q0.2.length d0] 26)).alloc (by first | omega | (simp; omega) | simp) (.cells #[.int .i64 q1.1, .slice B1 q1.2.length d1] 26)).alloc (by first | omega | (simp; omega) | simp) (.cells #[.int .i64 q2.1, .slice B2 q2.2.length d2] 26)).trans (hb2.mono (by first | omega | (simp; omega) | simp))
    have hga : Hid (∀ g, blk B0 = some g → g < w1.heap.size) := hide fun g hg => (oa.ge hg).2
    have hgb : Hid (∀ g, blk B1 = some g → g < w1.heap.size) := hide fun g hg => (ob.ge hg).2
    have hgx : Hid (∀ g, blk X2 = some g → g < w2.heap.size) := hide fun g hg => (ox.ge hg).2
    have hz21 : w1.heap.size + 3 ≤ w2.heap.size := by have := z_2; omega
    have hz10 : w.heap.size ≤ w1.heap.size := hb1.size
    obtain ⟨paa_x2, pab_x2⟩ := ((pa_2).alloc (.cells #[.int .i64 x.1, .slice X2 x.2.length e2] 26)).two
    obtain ⟨pba_x2, pbb_x2⟩ := ((pb_2).alloc (.cells #[.int .i64 x.1, .slice X2 x.2.length e2] 26)).two
    obtain ⟨pxa_x2, pxb_x2⟩ := (Bx.new_ w2 (w2.heap.size) 26 #[.int .i64 x.1, .slice X2 x.2.length e2] (by simp)).two
    by_cases hz : t0 - 4 = 0
    ·
      have hz0 : (t0 - 4 != 0) = false := by simp [hz]
      have HET : Hid (mulPR q0.1 q0.2 ((0 : Int), ([] : List Int)).1 ((0 : Int), ([] : List Int)).2 = (x.1, x.2, 0)) := hide (by have h := HE.out.2.1; rw [hz, termP_zero] at h; exact h)
      clear hz
      have ot := OwnI.new_ (base := w.heap.size) (w2.alloc (.cells #[.int .i64 x.1, .slice X2 x.2.length e2] 26)) (w2.heap.size + 1) (by simp) [] #[] rfl (by first | omega | (simp; omega) | simp) (by simp [maxLen])
      obtain ⟨paa_x3, pab_x3⟩ := ((((pa_2).alloc (.cells #[.int .i64 x.1, .slice X2 x.2.length e2] 26)).alloc (.cells #[] 2)).alloc (.cells #[.int .i64 0, .slice (some ⟨w2.heap.size + 1, 0, none⟩) 0 0] 26)).two
      obtain ⟨pba_x3, pbb_x3⟩ := ((((pb_2).alloc (.cells #[.int .i64 x.1, .slice X2 x.2.length e2] 26)).alloc (.cells #[] 2)).alloc (.cells #[.int .i64 0, .slice (some ⟨w2.heap.size + 1, 0, none⟩) 0 0] 26)).two
      obtain ⟨pxa_x3, pxb_x3⟩ := (((Bx.new_ w2 (w2.heap.size) 26 #[.int .i64 x.1, .slice X2 x.2.length e2] (by simp)).alloc (.cells #[] 2)).alloc (.cells #[.int .i64 0, .slice (some ⟨w2.heap.size + 1, 0, none⟩) 0 0] 26)).two
      obtain ⟨pta_x3, ptb_x3⟩ := (Bx.new_ ((w2.alloc (.cells #[.int .i64 x.1, .slice X2 x.2.length e2] 26)).alloc (.cells #[] 2)) (w2.heap.size + 1 + 1) 26 #[.int .i64 0, .slice (some ⟨w2.heap.size + 1, 0, none⟩) 0 0] (by simp)).two
      go_wp2_with fail
      refine (specMulPolys_ok (q1 := ((0 : Int), ([] : List Int))) HET.out ((((oa_2).alloc (.cells #[.int .i64 x.1, .slice X2 x.2.length e2] 26)).alloc (.cells #[] 2)).alloc (.cells #[.int .i64 0, .slice (some ⟨w2.heap.size + 1, 0, none⟩) 0 0] 26)) n0 ((ot).alloc (.cells #[.int .i64 0, .slice (some ⟨w2.heap.size + 1, 0, none⟩) 0 0] 26)) (by simp)).mono ?_
      rintro e w3 ⟨X3, e3, rfl, oy, hb3⟩
      have oa_3 := ((((oa_2).alloc (.cells #[.int .i64 x.1, .slice X2 x.2.length e2] 26)).alloc (.cells #[] 2)).alloc (.cells #[.int .i64 0, .slice (some ⟨w2.heap.size + 1, 0, none⟩) 0 0] 26)).below hb3
      have ob_3 := ((((ob_2).alloc (.cells #[.int .i64 x.1, .slice X2 x.2.length e2] 26)).alloc (.cells #[] 2)).alloc (.cells #[.int .i64 0, .slice (some ⟨w2.heap.size + 1, 0, none⟩) 0 0] 26)).below hb3
      have pa_3 := ((((pa_2).alloc (.cells #[.int .i64 x.1, .slice X2 x.2.length e2] 26)).alloc (.cells #[] 2)).alloc (.cells #[.int .i64 0, .slice (some ⟨w2.heap.size + 1, 0, none⟩) 0 0] 26)).below hb3
      obtain ⟨paa_3, pab_3⟩ := (pa_3).two
      have pb_3 := ((((pb_2).alloc (.cells #[.int .i64 x.1, .slice X2 x.2.length e2] 26)).alloc (.cells #[] 2)).alloc (.cells #[.int .i64 0, .slice (some ⟨w2.heap.size + 1, 0, none⟩) 0 0] 26)).below hb3
      obtain ⟨pba_3, pbb_3⟩ := (pb_3).two
      have pc_3 := ((((pc_2).alloc (.cells #[.int .i64 x.1, .slice X2 x.2.length e2] 26)).alloc (.cells #[] 2)).alloc (.cells #[.int .i64 0, .slice (some ⟨w2.heap.size + 1, 0, none⟩) 0 0] 26)).below hb3
      obtain ⟨pca_3, pcb_3⟩ := (pc_3).two
      have ox_3 := ((((ox).alloc (.cells #[.int .i64 x.1, .slice X2 x.2.length e2] 26)).alloc (.cells #[] 2)).alloc (.cells #[.int .i64 0, .slice (some ⟨w2.heap.size + 1, 0, none⟩) 0 0] 26)).below hb3
      have px_3 := (((Bx.new_ w2 (w2.heap.size) 26 #[.int .i64 x.1, .slice X2 x.2.length e2] (by simp)).alloc (.cells #[] 2)).alloc (.cells #[.int .i64 0, .slice (some ⟨w2.heap.size + 1, 0, none⟩) 0 0] 26)).below hb3
      obtain ⟨pxa_3, pxb_3⟩ := (px_3).two
      have ot_3 := ((ot).alloc (.cells #[.int .i64 0, .slice (some ⟨w2.heap.size + 1, 0, none⟩) 0 0] 26)).below hb3
      have pt_3 := (Bx.new_ ((w2.alloc (.cells #[.int .i64 x.1, .slice X2 x.2.length e2] 26)).alloc (.cells #[] 2)) (w2.heap.size + 1 + 1) 26 #[.int .i64 0, .slice (some ⟨w2.heap.size + 1, 0, none⟩) 0 0] (by simp)).below hb3
      obtain ⟨pta_3, ptb_3⟩ := (pt_3).two
      have z_3 : (((w2.alloc (.cells #[.int .i64 x.1, .slice X2 x.2.length e2] 26)).alloc (.cells #[] 2)).alloc (.cells #[.int .i64 0, .slice (some ⟨w2.heap.size + 1, 0, none⟩) 0 0] 26)).heap.size ≤ w3.heap.size := hb3.size
      simp only [World.size_alloc] at z_3
      have B_3 := ((((B_2).alloc (by first | omega | (simp; omega) | simp) (.cells #[.int .i64 x.1, .slice X2 x.2.length e2] 26)).alloc (by first | omega | (simp; omega) | simp) (.cells #[] 2)).alloc (by first | omega | (simp; omega) | simp) (.cells #[.int .i64 0, .slice (some ⟨w2.heap.size + 1, 0, none⟩) 0 0] 26)).trans (hb3.mono (by first | omega | (simp; omega) | simp))
      obtain ⟨paa_x4, pab_x4⟩ := ((pa_3).alloc (.cells #[.int .i64 x.1, .slice X3 x.2.length e3] 26)).two
      obtain ⟨pba_x4, pbb_x4⟩ := ((pb_3).alloc (.cells #[.int .i64 x.1, .slice X3 x.2.length e3] 26)).two
      obtain ⟨pxa_x4, pxb_x4⟩ := ((px_3).alloc (.cells #[.int .i64 x.1, .slice X3 x.2.length e3] 26)).two
      obtain ⟨pya_x4, pyb_x4⟩ := (Bx.new_ w3 (w3.heap.size) 26 #[.int .i64 x.1, .slice X3 x.2.length e3] (by simp)).two
      go_wp2_with fail
      refine (specSamePoly_ok ((ox_3).alloc (.cells #[.int .i64 x.1, .slice X3 x.2.length e3] 26)) nx ((oy).alloc (.cells #[.int .i64 x.1, .slice X3 x.2.length e3] 26))).mono ?_
      rintro e w4 ⟨rfl, hb4⟩
      have oa_4 := ((oa_3).alloc (.cells #[.int .i64 x.1, .slice X3 x.2.length e3] 26)).below hb4
      have ob_4 := ((ob_3).alloc (.cells #[.int .i64 x.1, .slice X3 x.2.length e3] 26)).below hb4
      have pa_4 := ((pa_3).alloc (.cells #[.int .i64 x.1, .slice X3 x.2.length e3] 26)).below hb4
      obtain ⟨paa_4, pab_4⟩ := (pa_4).two
      have pb_4 := ((pb_3).alloc (.cells #[.int .i64 x.1, .slice X3 x.2.length e3] 26)).below hb4
      obtain ⟨pba_4, pbb_4⟩ := (pb_4).two
      have pc_4 := ((pc_3).alloc (.cells #[.int .i64 x.1, .slice X3 x.2.length e3] 26)).below hb4
      obtain ⟨pca_4, pcb_4⟩ := (pc_4).two
      have ox_4 := ((ox_3).alloc (.cells #[.int .i64 x.1, .slice X3 x.2.length e3] 26)).below hb4
      have px_4 := ((px_3).alloc (.cells #[.int .i64 x.1, .slice X3 x.2.length e3] 26)).below hb4
      obtain ⟨pxa_4, pxb_4⟩ := (px_4).two
      have ot_4 := ((ot_3).alloc (.cells #[.int .i64 x.1, .slice X3 x.2.length e3] 26)).below hb4
      have pt_4 := ((pt_3).alloc (.cells #[.int .i64 x.1, .slice X3 x.2.length e3] 26)).below hb4
      obtain ⟨pta_4, ptb_4⟩ := (pt_4).two
      have oy_4 := ((oy).alloc (.cells #[.int .i64 x.1, .slice X3 x.2.length e3] 26)).below hb4
      have py_4 := (Bx.new_ w3 (w3.heap.size) 26 #[.int .i64 x.1, .slice X3 x.2.length e3] (by simp)).below hb4
      obtain ⟨pya_4, pyb_4⟩ := (py_4).two
      have z_4 : (w3.alloc (.cells #[.int .i64 x.1, .slice X3 x.2.length e3] 26)).heap.size ≤ w4.heap.size := hb4.size
      simp only [World.size_alloc] at z_4
      have B_4 := ((B_3).alloc (by first | omega | (simp; omega) | simp) (.cells #[.int .i64 x.1, .slice X3 x.2.length e3] 26)).trans (hb4.mono (by first | omega | (simp; omega) | simp))
      go_wp2_with fail
      refine (implInversePoly_ok (HE.out.2.2.1) (oa_4) n0).mono ?_
      rintro e w5 ⟨X5, e5, rfl, ou, hb5⟩
      have oa_5 := (oa_4).below hb5
      have ob_5 := (ob_4).below hb5
      have pa_5 := (pa_4).below hb5
      obtain ⟨paa_5, pab_5⟩ := (pa_5).two
      have pb_5 := (pb_4).below hb5
      obtain ⟨pba_5, pbb_5⟩ := (pb_5).two
      have pc_5 := (pc_4).below hb5
      obtain ⟨pca_5, pcb_5⟩ := (pc_5).two
      have z_5 : w4.heap.size ≤ w5.heap.size := hb5.size
      have B_5 := (B_4).trans (hb5.mono (by first | omega | (simp; omega) | simp))
      obtain ⟨paa_x5, pab_x5⟩ := ((pa_5).alloc (.cells #[.int .i64 u.1, .slice X5 u.2.length e5] 26)).two
      obtain ⟨pba_x5, pbb_x5⟩ := ((pb_5).alloc (.cells #[.int .i64 u.1, .slice X5 u.2.length e5] 26)).two
      obtain ⟨pua_x5, pub_x5⟩ := (Bx.new_ w5 (w5.heap.size) 26 #[.int .i64 u.1, .slice X5 u.2.length e5] (by simp)).two
      go_wp2_with fail
      refine (specValidPoly_ok (HE.out.2.2.2.1) ((ou).alloc (.cells #[.int .i64 u.1, .slice X5 u.2.length e5] 26)) nu).mono ?_
      rintro e w6 ⟨rfl, hb6⟩
      have oa_6 := ((oa_5).alloc (.cells #[.int .i64 u.1, .slice X5 u.2.length e5] 26)).below hb6
      have ob_6 := ((ob_5).alloc (.cells #[.int .i64 u.1, .slice X5 u.2.length e5] 26)).below hb6
      have pa_6 := ((pa_5).alloc (.cells #[.int .i64 u.1, .slice X5 u.2.length e5] 26)).below hb6
      obtain ⟨paa_6, pab_6⟩ := (pa_6).two
      have pb_6 := ((pb_5).alloc (.cells #[.int .i64 u.1, .slice X5 u.2.length e5] 26)).below hb6
      obtain ⟨pba_6, pbb_6⟩ := (pb_6).two
      have pc_6 := ((pc_5).alloc (.cells #[.int .i64 u.1, .slice X5 u.2.length e5] 26)).below hb6
      obtain ⟨pca_6, pcb_6⟩ := (pc_6).two
      have ou_6 := ((ou).alloc (.cells #[.int .i64 u.1, .slice X5 u.2.length e5] 26)).below hb6
      have pu_6 := (Bx.new_ w5 (w5.heap.size) 26 #[.int .i64 u.1, .slice X5 u.2.length e5] (by simp)).below hb6
      obtain ⟨pua_6, pub_6⟩ := (pu_6).two
      have z_6 : (w5.alloc (.cells #[.int .i64 u.1, .slice X5 u.2.length e5] 26)).heap.size ≤ w6.heap.size := hb6.size
      simp only [World.size_alloc] at z_6
      have B_6 := ((B_5).alloc (by first | omega | (simp; omega) | simp) (.cells #[.int .i64 u.1, .slice X5 u.2.length e5] 26)).trans (hb6.mono (by first | omega | (simp; omega) | simp))
      go_wp2_with fail
      refine (implInversePoly_ok (HE.out.2.2.2.2.1) (ou_6) nu).mono ?_
      rintro e w7 ⟨X7, e7, rfl, oz, hb7⟩
      have oa_7 := (oa_6).below hb7
      have ob_7 := (ob_6).below hb7
      have pa_7 := (pa_6).below hb7
      obtain ⟨paa_7, pab_7⟩ := (pa_7).two
      have pb_7 := (pb_6).below hb7
      obtain ⟨pba_7, pbb_7⟩ := (pb_7).two
      have pc_7 := (pc_6).below hb7
      obtain ⟨pca_7, pcb_7⟩ := (pc_7).two
      have ou_7 := (ou_6).below hb7
      have pu_7 := (pu_6).below hb7
      obtain ⟨pua_7, pub_7⟩ := (pu_7).two
      have z_7 : w6.heap.size ≤ w7.heap.size := hb7.size
      have B_7 := (B_6).trans (hb7.mono (by first | omega | (simp; omega) | simp))
      obtain ⟨paa_x6, pab_x6⟩ := ((pa_7).alloc (.cells #[.int .i64 q0.1, .slice X7 q0.2.length e7] 26)).two
      obtain ⟨pba_x6, pbb_x6⟩ := ((pb_7).alloc (.cells #[.int .i64 q0.1, .slice X7 q0.2.length e7] 26)).two
      obtain ⟨pua_x6, pub_x6⟩ := ((pu_7).alloc (.cells #[.int .i64 q0.1, .slice X7 q0.2.length e7] 26)).two
      obtain ⟨pza_x6, pzb_x6⟩ := (Bx.new_ w7 (w7.heap.size) 26 #[.int .i64 q0.1, .slice X7 q0.2.length e7] (by simp)).two
      go_wp2_with fail
      refine (specInversePoly_ok (HE.out.2.2.2.2.2.1) ((ob_7).alloc (.cells #[.int .i64 q0.1, .slice X7 q0.2.length e7] 26)) n1).mono ?_
      rintro e w8 ⟨X8, e8, rfl, ov, hb8⟩
      have oa_8 := ((oa_7).alloc (.cells #[.int .i64 q0.1, .slice X7 q0.2.length e7] 26)).below hb8
      have ob_8 := ((ob_7).alloc (.cells #[.int .i64 q0.1, .slice X7 q0.2.length e7] 26)).below hb8
      have pa_8 := ((pa_7).alloc (.cells #[.int .i64 q0.1, .slice X7 q0.2.length e7] 26)).below hb8
      obtain ⟨paa_8, pab_8⟩ := (pa_8).two
      have pb_8 := ((pb_7).alloc (.cells #[.int .i64 q0.1, .slice X7 q0.2.length e7] 26)).below hb8
      obtain ⟨pba_8, pbb_8⟩ := (pb_8).two
      have pc_8 := ((pc_7).alloc (.cells #[.int .i64 q0.1, .slice X7 q0.2.length e7] 26)).below hb8
      obtain ⟨pca_8, pcb_8⟩ := (pc_8).two
      have ou_8 := ((ou_7).alloc (.cells #[.int .i64 q0.1, .slice X7 q0.2.length e7] 26)).below hb8
      have pu_8 := ((pu_7).alloc (.cells #[.int .i64 q0.1, .slice X7 q0.2.length e7] 26)).below hb8
      obtain ⟨pua_8, pub_8⟩ := (pu_8).two
      have oz_8 := ((oz).alloc (.cells #[.int .i64 q0.1, .slice X7 q0.2.length e7] 26)).below hb8
      have pz_8 := (Bx.new_ w7 (w7.heap.size) 26 #[.int .i64 q0.1, .slice X7 q0.2.length e7] (by simp)).below hb8
      obtain ⟨pza_8, pzb_8⟩ := (pz_8).two
      have z_8 : (w7.alloc (.cells #[.int .i64 q0.1, .slice X7 q0.2.length e7] 26)).heap.size ≤ w8.heap.size := hb8.size
      simp only [World.size_alloc] at z_8
      have B_8 := ((B_7).alloc (by first | omega | (simp; omega) | simp) (.cells #[.int .i64 q0.1, .slice X7 q0.2.length e7] 26)).trans (hb8.mono (by first | omega | (simp; omega) | simp))
      obtain ⟨paa_x7, pab_x7⟩ := ((pa_8).alloc (.cells #[.int .i64 v.1, .slice X8 v.2.length e8] 26)).two
      obtain ⟨pba_x7, pbb_x7⟩ := ((pb_8).alloc (.cells #[.int .i64 v.1, .slice X8 v.2.length e8] 26)).two
      obtain ⟨pua_x7, pub_x7⟩ := ((pu_8).alloc (.cells #[.int .i64 v.1, .slice X8 v.2.length e8] 26)).two
      obtain ⟨pza_x7, pzb_x7⟩ := ((pz_8).alloc (.cells #[.int .i64 v.1, .slice X8 v.2.length e8] 26)).two
      obtain ⟨pva_x7, pvb_x7⟩ := (Bx.new_ w8 (w8.heap.size) 26 #[.int .i64 v.1, .slice X8 v.2.length e8] (by simp)).two
      go_wp2_with fail
      refine (specMulPolys_ok (HE.out.2.2.2.2.2.2.1) ((ou_8).alloc (.cells #[.int .i64 v.1, .slice X8 v.2.length e8] 26)) nu ((ov).alloc (.cells #[.int .i64 v.1, .slice X8 v.2.length e8] 26)) nv).mono ?_
      rintro e w9 ⟨X9, e9, rfl, op, hb9⟩
      have oa_9 := ((oa_8).alloc (.cells #[.int .i64 v.1, .slice X8 v.2.length e8] 26)).below hb9
      have ob_9 := ((ob_8).alloc (.cells #[.int .i64 v.1, .slice X8 v.2.length e8] 26)).below hb9
      have pa_9 := ((pa_8).alloc (.cells #[.int .i64 v.1, .slice X8 v.2.length e8] 26)).below hb9
      obtain ⟨paa_9, pab_9⟩ := (pa_9).two
      have pb_9 := ((pb_8).alloc (.cells #[.int .i64 v.1, .slice X8 v.2.length e8] 26)).below hb9
      obtain ⟨pba_9, pbb_9⟩ := (pb_9).two
      have pc_9 := ((pc_8).alloc (.cells #[.int .i64 v.1, .slice X8 v.2.length e8] 26)).below hb9
      obtain ⟨pca_9, pcb_9⟩ := (pc_9).two
      have ou_9 := ((ou_8).alloc (.cells #[.int .i64 v.1, .slice X8 v.2.length e8] 26)).below hb9
      have pu_9 := ((pu_8).alloc (.cells #[.int .i64 v.1, .slice X8 v.2.length e8] 26)).below hb9
      obtain ⟨pua_9, pub_9⟩ := (pu_9).two
      have oz_9 := ((oz_8).alloc (.cells #[.int .i64 v.1, .slice X8 v.2.length e8] 26)).below hb9
      have pz_9 := ((pz_8).alloc (.cells #[.int .i64 v.1, .slice X8 v.2.length e8] 26)).below hb9
      obtain ⟨pza_9, pzb_9⟩ := (pz_9).two
      have ov_9 := ((ov).alloc (.cells #[.int .i64 v.1, .slice X8 v.2.length e8] 26)).below hb9
      have pv_9 := (Bx.new_ w8 (w8.heap.size) 26 #[.int .i64 v.1, .slice X8 v.2.length e8] (by simp)).below hb9
      obtain ⟨pva_9, pvb_9⟩ := (pv_9).two
      have z_9 : (w8.alloc (.cells #[.int .i64 v.1, .slice X8 v.2.length e8] 26)).heap.size ≤ w9.heap.size := hb9.size
      simp only [World.size_alloc] at z_9
      have B_9 := ((B_8).alloc (by first | omega | (simp; omega) | simp) (.cells #[.int .i64 v.1, .slice X8 v.2.length e8] 26)).trans (hb9.mono (by first | omega | (simp; omega) | simp))
      obtain ⟨paa_x8, pab_x8⟩ := ((pa_9).alloc (.cells #[.int .i64 r.1, .slice X9 r.2.length e9] 26)).two
      obtain ⟨pba_x8, pbb_x8⟩ := ((pb_9).alloc (.cells #[.int .i64 r.1, .slice X9 r.2.length e9] 26)).two
      obtain ⟨pza_x8, pzb_x8⟩ := ((pz_9).alloc (.cells #[.int .i64 r.1, .slice X9 r.2.length e9] 26)).two
      obtain ⟨ppa_x8, ppb_x8⟩ := (Bx.new_ w9 (w9.heap.size) 26 #[.int .i64 r.1, .slice X9 r.2.length e9] (by simp)).two
      go_wp2_with fail
      refine (specMulPolys_ok (HE.out.2.2.2.2.2.2.2.1) ((oa_9).alloc (.cells #[.int .i64 r.1, .slice X9 r.2.length e9] 26)) n0 ((ob_9).alloc (.cells #[.int .i64 r.1, .slice X9 r.2.length e9] 26)) n1).mono ?_
      rintro e w10 ⟨X10, e10, rfl, oq, hb10⟩
      have oa_10 := ((oa_9).alloc (.cells #[.int .i64 r.1, .slice X9 r.2.length e9] 26)).below hb10
      have ob_10 := ((ob_9).alloc (.cells #[.int .i64 r.1, .slice X9 r.2.length e9] 26)).below hb10
      have pa_10 := ((pa_9).alloc (.cells #[.int .i64 r.1, .slice X9 r.2.length e9] 26)).below hb10
      obtain ⟨paa_10, pab_10⟩ := (pa_10).two
      have pb_10 := ((pb_9).alloc (.cells #[.int .i64 r.1, .slice X9 r.2.length e9] 26)).below hb10
      obtain ⟨pba_10, pbb_10⟩ := (pb_10).two
      have pc_10 := ((pc_9).alloc (.cells #[.int .i64 r.1, .slice X9 r.2.length e9] 26)).below hb10
      obtain ⟨pca_10, pcb_10⟩ := (pc_10).two
      have ou_10 := ((ou_9).alloc (.cells #[.int .i64 r.1, .slice X9 r.2.length e9] 26)).below hb10
      have pu_10 := ((pu_9).alloc (.cells #[.int .i64 r.1, .slice X9 r.2.length e9] 26)).below hb10
      obtain ⟨pua_10, pub_10⟩ := (pu_10).two
      have oz_10 := ((oz_9).alloc (.cells #[.int .i64 r.1, .slice X9 r.2.length e9] 26)).below hb10
      have pz_10 := ((pz_9).alloc (.cells #[.int .i64 r.1, .slice X9 r.2.length e9] 26)).below hb10
      obtain ⟨pza_10, pzb_10⟩ := (pz_10).two
      have ov_10 := ((ov_9).alloc (.cells #[.int .i64 r.1, .slice X9 r.2.length e9] 26)).below hb10
      have pv_10 := ((pv_9).alloc (.cells #[.int .i64 r.1, .slice X9 r.2.length e9] 26)).below hb10
      obtain ⟨pva_10, pvb_10⟩ := (pv_10).two
      have op_10 := ((op).alloc (.cells #[.int .i64 r.1, .slice X9 r.2.length e9] 26)).below hb10
      have pp_10 := (Bx.new_ w9 (w9.heap.size) 26 #[.int .i64 r.1, .slice X9 r.2.length e9] (by simp)).below hb10
      obtain ⟨ppa_10, ppb_10⟩ := (pp_10).two
      have z_10 : (w9.alloc (.cells #[.int .i64 r.1, .slice X9 r.2.length e9] 26)).heap.size ≤ w10.heap.size := hb10.size
      simp only [World.size_alloc] at z_10
      have B_10 := ((B_9).alloc (by first | omega | (simp; omega) | simp) (.cells #[.int .i64 r.1, .slice X9 r.2.length e9] 26)).trans (hb10.mono (by first | omega | (simp; omega) | simp))
      obtain ⟨paa_x9, pab_x9⟩ := ((pa_10).alloc (.cells #[.int .i64 q.1, .slice X10 q.2.length e10] 26)).two
      obtain ⟨pza_x9, pzb_x9⟩ := ((pz_10).alloc (.cells #[.int .i64 q.1, .slice X10 q.2.length e10] 26)).two
      obtain ⟨ppa_x9, ppb_x9⟩ := ((pp_10).alloc (.cells #[.int .i64 q.1, .slice X10 q.2.length e10] 26)).two
      obtain ⟨pqa_x9, pqb_x9⟩ := (Bx.new_ w10 (w10.heap.size) 26 #[.int .i64 q.1, .slice X10 q.2.length e10] (by simp)).two
      go_wp2_with fail
      refine (implInversePoly_ok (HE.out.2.2.2.2.2.2.2.2) ((oq).alloc (.cells #[.int .i64 q.1, .slice X10 q.2.length e10] 26)) nq).mono ?_
      rintro e w11 ⟨X11, e11, rfl, or, hb11⟩
      have oa_11 := ((oa_10).alloc (.cells #[.int .i64 q.1, .slice X10 q.2.length e10] 26)).below hb11
      have ob_11 := ((ob_10).alloc (.cells #[.int .i64 q.1, .slice X10 q.2.length e10] 26)).below hb11
      have pa_11 := ((pa_10).alloc (.cells #[.int .i64 q.1, .slice X10 q.2.length e10] 26)).below hb11
      obtain ⟨paa_11, pab_11⟩ := (pa_11).two
      have pb_11 := ((pb_10).alloc (.cells #[.int .i64 q.1, .slice X10 q.2.length e10] 26)).below hb11
      obtain ⟨pba_11, pbb_11⟩ := (pb_11).two
      have pc_11 := ((pc_10).alloc (.cells #[.int .i64 q.1, .slice X10 q.2.length e10] 26)).below hb11
      obtain ⟨pca_11, pcb_11⟩ := (pc_11).two
      have ou_11 := ((ou_10).alloc (.cells #[.int .i64 q.1, .slice X10 q.2.length e10] 26)).below hb11
      have pu_11 := ((pu_10).alloc (.cells #[.int .i64 q.1, .slice X10 q.2.length e10] 26)).below hb11
      obtain ⟨pua_11, pub_11⟩ := (pu_11).two
      have oz_11 := ((oz_10).alloc (.cells #[.int .i64 q.1, .slice X10 q.2.length e10] 26)).below hb11
      have pz_11 := ((pz_10).alloc (.cells #[.int .i64 q.1, .slice X10 q.2.length e10] 26)).below hb11
      obtain ⟨pza_11, pzb_11⟩ := (pz_11).two
      have ov_11 := ((ov_10).alloc (.cells #[.int .i64 q.1, .slice X10 q.2.length e10] 26)).below hb11
      have pv_11 := ((pv_10).alloc (.cells #[.int .i64 q.1, .slice X10 q.2.length e10] 26)).below hb11
      obtain ⟨pva_11, pvb_11⟩ := (pv_11).two
      have op_11 := ((op_10).alloc (.cells #[.int .i64 q.1, .slice X10 q.2.length e10] 26)).below hb11
      have pp_11 := ((pp_10).alloc (.cells #[.int .i64 q.1, .slice X10 q.2.length e10] 26)).below hb11
      obtain ⟨ppa_11, ppb_11⟩ := (pp_11).two
      have oq_11 := ((oq).alloc (.cells #[.int .i64 q.1, .slice X10 q.2.length e10] 26)).below hb11
      have pq_11 := (Bx.new_ w10 (w10.heap.size) 26 #[.int .i64 q.1, .slice X10 q.2.length e10] (by simp)).below hb11
      obtain ⟨pqa_11, pqb_11⟩ := (pq_11).two
      have z_11 : (w10.alloc (.cells #[.int .i64 q.1, .slice X10 q.2.length e10] 26)).heap.size ≤ w11.heap.size := hb11.size
      simp only [World.size_alloc] at z_11
      have B_11 := ((B_10).alloc (by first | omega | (simp; omega) | simp) (.cells #[.int .i64 q.1, .slice X10 q.2.length e10] 26)).trans (hb11.mono (by first | omega | (simp; omega) | simp))
      obtain ⟨paa_x10, pab_x10⟩ := ((pa_11).alloc (.cells #[.int .i64 r.1, .slice X11 r.2.length e11] 26)).two
      obtain ⟨pza_x10, pzb_x10⟩ := ((pz_11).alloc (.cells #[.int .i64 r.1, .slice X11 r.2.length e11] 26)).two
      obtain ⟨ppa_x10, ppb_x10⟩ := ((pp_11).alloc (.cells #[.int .i64 r.1, .slice X11 r.2.length e11] 26)).two
      obtain ⟨pra_x10, prb_x10⟩ := (Bx.new_ w11 (w11.heap.size) 26 #[.int .i64 r.1, .slice X11 r.2.length e11] (by simp)).two
      go_wp2_with fail
      refine (specSamePoly_ok ((oz_11).alloc (.cells #[.int .i64 r.1, .slice X11 r.2.length e11] 26)) n0 ((oa_11).alloc (.cells #[.int .i64 r.1, .slice X11 r.2.length e11] 26))).mono ?_
      rintro e w12 ⟨rfl, hb12⟩
      have oa_12 := ((oa_11).alloc (.cells #[.int .i64 r.1, .slice X11 r.2.length e11] 26)).below hb12
      have ob_12 := ((ob_11).alloc (.cells #[.int .i64 r.1, .slice X11 r.2.length e11] 26)).below hb12
      have pa_12 := ((pa_11).alloc (.cells #[.int .i64 r.1, .slice X11 r.2.length e11] 26)).below hb12
      obtain ⟨paa_12, pab_12⟩ := (pa_12).two
      have pb_12 := ((pb_11).alloc (.cells #[.int .i64 r.1, .slice X11 r.2.length e11] 26)).below hb12
      obtain ⟨pba_12, pbb_12⟩ := (pb_12).two
      have pc_12 := ((pc_11).alloc (.cells #[.int .i64 r.1, .slice X11 r.2.length e11] 26)).below hb12
      obtain ⟨pca_12, pcb_12⟩ := (pc_12).two
      have ou_12 := ((ou_11).alloc (.cells #[.int .i64 r.1, .slice X11 r.2.length e11] 26)).below hb12
      have pu_12 := ((pu_11).alloc (.cells #[.int .i64 r.1, .slice X11 r.2.length e11] 26)).below hb12
      obtain ⟨pua_12, pub_12⟩ := (pu_12).two
      have oz_12 := ((oz_11).alloc (.cells #[.int .i64 r.1, .slice X11 r.2.length e11] 26)).below hb12
      have pz_12 := ((pz_11).alloc (.cells #[.int .i64 r.1, .slice X11 r.2.length e11] 26)).below hb12
      obtain ⟨pza_12, pzb_12⟩ := (pz_12).two
      have ov_12 := ((ov_11).alloc (.cells #[.int .i64 r.1, .slice X11 r.2.length e11] 26)).below hb12
      have pv_12 := ((pv_11).alloc (.cells #[.int .i64 r.1, .slice X11 r.2.length e11] 26)).below hb12
      obtain ⟨pva_12, pvb_12⟩ := (pv_12).two
      have op_12 := ((op_11).alloc (.cells #[.int .i64 r.1, .slice X11 r.2.length e11] 26)).below hb12
      have pp_12 := ((pp_11).alloc (.cells #[.int .i64 r.1, .slice X11 r.2.length e11] 26)).below hb12
      obtain ⟨ppa_12, ppb_12⟩ := (pp_12).two
      have oq_12 := ((oq_11).alloc (.cells #[.int .i64 r.1, .slice X11 r.2.length e11] 26)).below hb12
      have pq_12 := ((pq_11).alloc (.cells #[.int .i64 r.1, .slice X11 r.2.length e11] 26)).below hb12
      obtain ⟨pqa_12, pqb_12⟩ := (pq_12).two
      have or_12 := ((or).alloc (.cells #[.int .i64 r.1, .slice X11 r.2.length e11] 26)).below hb12
      have pr_12 := (Bx.new_ w11 (w11.heap.size) 26 #[.int .i64 r.1, .slice X11 r.2.length e11] (by simp)).below hb12
      obtain ⟨pra_12, prb_12⟩ := (pr_12).two
      have z_12 : (w11.alloc (.cells #[.int .i64 r.1, .slice X11 r.2.length e11] 26)).heap.size ≤ w12.heap.size := hb12.size
      simp only [World.size_alloc] at z_12
      have B_12 := ((B_11).alloc (by first | omega | (simp; omega) | simp) (.cells #[.int .i64 r.1, .slice X11 r.2.length e11] 26)).trans (hb12.mono (by first | omega | (simp; omega) | simp))
      go_wp2_with fail
      refine (specSamePoly_ok (or_12) nr (op_12)).mono ?_
      rintro e w13 ⟨rfl, hb13⟩
      have oa_13 := (oa_12).below hb13
      have ob_13 := (ob_12).below hb13
      have pa_13 := (pa_12).below hb13
      obtain ⟨paa_13, pab_13⟩ := (pa_13).two
      have pb_13 := (pb_12).below hb13
      obtain ⟨pba_13, pbb_13⟩ := (pb_13).two
      have pc_13 := (pc_12).below hb13
      obtain ⟨pca_13, pcb_13⟩ := (pc_13).two
      have ou_13 := (ou_12).below hb13
      have pu_13 := (pu_12).below hb13
      obtain ⟨pua_13, pub_13⟩ := (pu_13).two
      have oz_13 := (oz_12).below hb13
      have pz_13 := (pz_12).below hb13
      obtain ⟨pza_13, pzb_13⟩ := (pz_13).two
      have ov_13 := (ov_12).below hb13
      have pv_13 := (pv_12).below hb13
      obtain ⟨pva_13, pvb_13⟩ := (pv_13).two
      have op_13 := (op_12).below hb13
      have pp_13 := (pp_12).below hb13
      obtain ⟨ppa_13, ppb_13⟩ := (pp_13).two
      have oq_13 := (oq_12).below hb13
      have pq_13 := (pq_12).below hb13
      obtain ⟨pqa_13, pqb_13⟩ := (pq_13).two
      have or_13 := (or_12).below hb13
      have pr_13 := (pr_12).below hb13
      obtain ⟨pra_13, prb_13⟩ := (pr_13).two
      have z_13 : w12.heap.size ≤ w13.heap.size := hb13.size
      have B_13 := (B_12).trans (hb13.mono (by first | omega | (simp; omega) | simp))
      go_wp2_with fail
      obtain ⟨htne, htb⟩ := HTB.out
      refine (HTXX.out _ _ _ _ (oa_13)).mono ?_
      rintro e w14 ⟨rfl, hb14⟩
      have oa_14 := (oa_13).below hb14
      have ob_14 := (ob_13).below hb14
      have pa_14 := (pa_13).below hb14
      obtain ⟨paa_14, pab_14⟩ := (pa_14).two
      have pb_14 := (pb_13).below hb14
      obtain ⟨pba_14, pbb_14⟩ := (pb_14).two
      have pc_14 := (pc_13).below hb14
      obtain ⟨pca_14, pcb_14⟩ := (pc_14).two
      have ou_14 := (ou_13).below hb14
      have pu_14 := (pu_13).below hb14
      obtain ⟨pua_14, pub_14⟩ := (pu_14).two
      have oz_14 := (oz_13).below hb14
      have pz_14 := (pz_13).below hb14
      obtain ⟨pza_14, pzb_14⟩ := (pz_14).two
      have ov_14 := (ov_13).below hb14
      have pv_14 := (pv_13).below hb14
      obtain ⟨pva_14, pvb_14⟩ := (pv_14).two
      have op_14 := (op_13).below hb14
      have pp_14 := (pp_13).below hb14
      obtain ⟨ppa_14, ppb_14⟩ := (pp_14).two
      have oq_14 := (oq_13).below hb14
      have pq_14 := (pq_13).below hb14
      obtain ⟨pqa_14, pqb_14⟩ := (pq_14).two
      have or_14 := (or_13).below hb14
      have pr_14 := (pr_13).below hb14
      obtain ⟨pra_14, prb_14⟩ := (pr_14).two
      have z_14 : w13.heap.size ≤ w14.heap.size := hb14.size
      have B_14 := (B_13).trans (hb14.mono (by first | omega | (simp; omega) | simp))
      go_wp2_with fail
      go_ret
      exact ⟨by simp, (B_14)⟩
    ·
      have hz0 : (t0 - 4 != 0) = true := by simpa using hz
      have HET : Hid (mulPR q0.1 q0.2 (p0 - 10, [t0 - 4]).1 (p0 - 10, [t0 - 4]).2 = (x.1, x.2, 0)) := hide (by have h := HE.out.2.1; rw [termP_some hz] at h; exact h)
      have ka := ((((pa_2).alloc (.cells #[.int .i64 x.1, .slice X2 x.2.length e2] 26)).alloc (.cells #[] 2)).alloc (.cells #[.int .i64 0, .slice (some ⟨w2.heap.size + 1, 0, none⟩) 0 0] 26))
      have kb := ((((pb_2).alloc (.cells #[.int .i64 x.1, .slice X2 x.2.length e2] 26)).alloc (.cells #[] 2)).alloc (.cells #[.int .i64 0, .slice (some ⟨w2.heap.size + 1, 0, none⟩) 0 0] 26))
      have kx := (((Bx.new_ w2 (w2.heap.size) 26 #[.int .i64 x.1, .slice X2 x.2.length e2] (by simp)).alloc (.cells #[] 2)).alloc (.cells #[.int .i64 0, .slice (some ⟨w2.heap.size + 1, 0, none⟩) 0 0] 26))
      have kt := (Bx.new_ ((w2.alloc (.cells #[.int .i64 x.1, .slice X2 x.2.length e2] 26)).alloc (.cells #[] 2)) (w2.heap.size + 1 + 1) 26 #[.int .i64 0, .slice (some ⟨w2.heap.size + 1, 0, none⟩) 0 0] (by simp))
      have la := ((((oa_2).alloc (.cells #[.int .i64 x.1, .slice X2 x.2.length e2] 26)).alloc (.cells #[] 2)).alloc (.cells #[.int .i64 0, .slice (some ⟨w2.heap.size + 1, 0, none⟩) 0 0] 26))
      have lb := ((((ob_2).alloc (.cells #[.int .i64 x.1, .slice X2 x.2.length e2] 26)).alloc (.cells #[] 2)).alloc (.cells #[.int .i64 0, .slice (some ⟨w2.heap.size + 1, 0, none⟩) 0 0] 26))
      have lx := ((((ox).alloc (.cells #[.int .i64 x.1, .slice X2 x.2.length e2] 26)).alloc (.cells #[] 2)).alloc (.cells #[.int .i64 0, .slice (some ⟨w2.heap.size + 1, 0, none⟩) 0 0] 26))
      have hB := ((((B_2).alloc (by first | omega | (simp; omega) | simp) (.cells #[.int .i64 x.1, .slice X2 x.2.length e2] 26)).alloc (by first | omega | (simp; omega) | simp) (.cells #[] 2)).alloc (by first | omega | (simp; omega) | simp) (.cells #[.int .i64 0, .slice (some ⟨w2.heap.size + 1, 0, none⟩) 0 0] 26))
      obtain ⟨w9, hw9⟩ : ∃ w9, w9 = (((w2.alloc (.cells #[.int .i64 x.1, .slice X2 x.2.length e2] 26)).alloc (.cells #[] 2)).alloc (.cells #[.int .i64 0, .slice (some ⟨w2.heap.size + 1, 0, none⟩) 0 0] 26)) := ⟨_, rfl⟩
      have hz9 : w2.heap.size + 3 ≤ w9.heap.size := by rw [hw9]; simp
      have hne9 : w2.heap.size + 1 + 1 ≠ w9.heap.size := by omega
      have hlt9 : w2.heap.size + 1 + 1 < w9.heap.size := by omega
      clear hz
      go_upto_region 9 with fail
      rw [← hw9] at ka kb kx kt la lb lx hB ⊢
      clear hw9
      obtain ⟨ktc, ktd⟩ := kt.two
      have ktf2 := kt.frozen 0
      have ktf3 := kt.frozen 1
      have kt2 := kt.alloc (.cells #[.int .i64 (t0 - 4)] 2)
      obtain ⟨kta, ktb⟩ := kt2.two
      have ktf0 := kt2.frozen 0
      have ktf1 := kt2.frozen 1
      go_upto_region 10 with fail
      clear kta ktb ktf0 ktf1 ktc ktd ktf2 ktf3 hne9 hlt9 kt2
      have oa := (own_far2 (b := (w2.heap.size + 1 + 1)) (o0 := 0) (o1 := 1) (u0 := .int .i64 (p0 - 10)) (u1 := .slice (some ⟨w9.heap.size, 0, none⟩) 1 1) la (fun g hg => by have := hga.out g hg; omega)).alloc (.cells #[.int .i64 (t0 - 4)] 2)
      have ob := (own_far2 (b := (w2.heap.size + 1 + 1)) (o0 := 0) (o1 := 1) (u0 := .int .i64 (p0 - 10)) (u1 := .slice (some ⟨w9.heap.size, 0, none⟩) 1 1) lb (fun g hg => by have := hgb.out g hg; omega)).alloc (.cells #[.int .i64 (t0 - 4)] 2)
      have ox := (own_far2 (b := (w2.heap.size + 1 + 1)) (o0 := 0) (o1 := 1) (u0 := .int .i64 (p0 - 10)) (u1 := .slice (some ⟨w9.heap.size, 0, none⟩) 1 1) lx (fun g hg => by have := hgx.out g hg; omega)).alloc (.cells #[.int .i64 (t0 - 4)] 2)
      have ot := OwnI.new_ (base := w.heap.size) ((w9.setCell ⟨(w2.heap.size + 1 + 1), 0, none⟩ (.int .i64 (p0 - 10))).setCell ⟨(w2.heap.size + 1 + 1), 1, none⟩ (.slice (some ⟨w9.heap.size, 0, none⟩) 1 1)) w9.heap.size (by simp) [t0 - 4] #[.int .i64 (t0 - 4)] rfl (by simp; omega) (by simp [maxLen])
      have pa := (bx_far2 (b := (w2.heap.size + 1 + 1)) (o0 := 0) (o1 := 1) (u0 := .int .i64 (p0 - 10)) (u1 := .slice (some ⟨w9.heap.size, 0, none⟩) 1 1) ka (by omega)).alloc (.cells #[.int .i64 (t0 - 4)] 2)
      have pb := (bx_far2 (b := (w2.heap.size + 1 + 1)) (o0 := 0) (o1 := 1) (u0 := .int .i64 (p0 - 10)) (u1 := .slice (some ⟨w9.heap.size, 0, none⟩) 1 1) kb (by omega)).alloc (.cells #[.int .i64 (t0 - 4)] 2)
      have px := (bx_far2 (b := (w2.heap.size + 1 + 1)) (o0 := 0) (o1 := 1) (u0 := .int .i64 (p0 - 10)) (u1 := .slice (some ⟨w9.heap.size, 0, none⟩) 1 1) kx (by omega)).alloc (.cells #[.int .i64 (t0 - 4)] 2)
      have pt := (bx_put2 (u0 := .int .i64 (p0 - 10)) (u1 := .slice (some ⟨w9.heap.size, 0, none⟩) 1 1) kt).alloc (.cells #[.int .i64 (t0 - 4)] 2)
      have hB := (below_put2_ (b := (w2.heap.size + 1 + 1)) (o0 := 0) (o1 := 1) (u0 := .int .i64 (p0 - 10)) (u1 := .slice (some ⟨w9.heap.size, 0, none⟩) 1 1) hB (by omega)).alloc (by simp; omega) (.cells #[.int .i64 (t0 - 4)] 2)
      obtain ⟨w10, hw10⟩ : ∃ w10, w10 = ((w9.setCell ⟨(w2.heap.size + 1 + 1), 0, none⟩ (.int .i64 (p0 - 10))).setCell ⟨(w2.heap.size + 1 + 1), 1, none⟩ (.slice (some ⟨w9.heap.size, 0, none⟩) 1 1)).alloc (.cells #[.int .i64 (t0 - 4)] 2) := ⟨_, rfl⟩
      rw [← hw10] at oa ob ox ot pa pb px pt hB
      have hz10' : w9.heap.size + 1 ≤ w10.heap.size := by rw [hw10]; simp
      rw [← hw10]
      clear hw10 ka kb kx kt la lb lx
      obtain ⟨paa_x3, pab_x3⟩ := (pa).two
      obtain ⟨pba_x3, pbb_x3⟩ := (pb).two
      obtain ⟨pxa_x3, pxb_x3⟩ := (px).two
      obtain ⟨pta_x3, ptb_x3⟩ := (pt).two
      go_wp2_with fail
      refine (specMulPolys_ok (q1 := (p0 - 10, [t0 - 4])) HET.out (oa) n0 (ot) (by simp)).mono ?_
      rintro e w3 ⟨X3, e3, rfl, oy, hb3⟩
      have oa_3 := (oa).below hb3
      have ob_3 := (ob).below hb3
      have pa_3 := (pa).below hb3
      obtain ⟨paa_3, pab_3⟩ := (pa_3).two
      have pb_3 := (pb).below hb3
      obtain ⟨pba_3, pbb_3⟩ := (pb_3).two
      have ox_3 := (ox).below hb3
      have px_3 := (px).below hb3
      obtain ⟨pxa_3, pxb_3⟩ := (px_3).two
      have pt_3 := (pt).below hb3
      obtain ⟨pta_3, ptb_3⟩ := (pt_3).two
      have ot_3 := (ot).below hb3
      have z_3 : w10.heap.size ≤ w3.heap.size := hb3.size
      have B_3 := (hB).trans (hb3.mono (by first | omega | (simp; omega) | simp))
      obtain ⟨paa_x4, pab_x4⟩ := ((pa_3).alloc (.cells #[.int .i64 x.1, .slice X3 x.2.length e3] 26)).two
      obtain ⟨pba_x4, pbb_x4⟩ := ((pb_3).alloc (.cells #[.int .i64 x.1, .slice X3 x.2.length e3] 26)).two
      obtain ⟨pxa_x4, pxb_x4⟩ := ((px_3).alloc (.cells #[.int .i64 x.1, .slice X3 x.2.length e3] 26)).two
      obtain ⟨pya_x4, pyb_x4⟩ := (Bx.new_ w3 (w3.heap.size) 26 #[.int .i64 x.1, .slice X3 x.2.length e3] (by simp)).two
      go_wp2_with fail
      refine (specSamePoly_ok ((ox_3).alloc (.cells #[.int .i64 x.1, .slice X3 x.2.length e3] 26)) nx ((oy).alloc (.cells #[.int .i64 x.1, .slice X3 x.2.length e3] 26))).mono ?_
      rintro e w4 ⟨rfl, hb4⟩
      have oa_4 := ((oa_3).alloc (.cells #[.int .i64 x.1, .slice X3 x.2.length e3] 26)).below hb4
      have ob_4 := ((ob_3).alloc (.cells #[.int .i64 x.1, .slice X3 x.2.length e3] 26)).below hb4
      have pa_4 := ((pa_3).alloc (.cells #[.int .i64 x.1, .slice X3 x.2.length e3] 26)).below hb4
      obtain ⟨paa_4, pab_4⟩ := (pa_4).two
      have pb_4 := ((pb_3).alloc (.cells #[.int .i64 x.1, .slice X3 x.2.length e3] 26)).below hb4
      obtain ⟨pba_4, pbb_4⟩ := (pb_4).two
      have ox_4 := ((ox_3).alloc (.cells #[.int .i64 x.1, .slice X3 x.2.length e3] 26)).below hb4
      have px_4 := ((px_3).alloc (.cells #[.int .i64 x.1, .slice X3 x.2.length e3] 26)).below hb4
      obtain ⟨pxa_4, pxb_4⟩ := (px_4).two
      have pt_4 := ((pt_3).alloc (.cells #[.int .i64 x.1, .slice X3 x.2.length e3] 26)).below hb4
      obtain ⟨pta_4, ptb_4⟩ := (pt_4).two
      have ot_4 := ((ot_3).alloc (.cells #[.int .i64 x.1, .slice X3 x.2.length e3] 26)).below hb4
      have oy_4 := ((oy).alloc (.cells #[.int .i64 x.1, .slice X3 x.2.length e3] 26)).below hb4
      have py_4 := (Bx.new_ w3 (w3.heap.size) 26 #[.int .i64 x.1, .slice X3 x.2.length e3] (by simp)).below hb4
      obtain ⟨pya_4, pyb_4⟩ := (py_4).two
      have z_4 : (w3.alloc (.cells #[.int .i64 x.1, .slice X3 x.2.length e3] 26)).heap.size ≤ w4.heap.size := hb4.size
      simp only [World.size_alloc] at z_4
      have B_4 := ((B_3).alloc (by first | omega | (simp; omega) | simp) (.cells #[.int .i64 x.1, .slice X3 x.2.length e3] 26)).trans (hb4.mono (by first | omega | (simp; omega) | simp))
      go_wp2_with fail
      refine (implInversePoly_ok (HE.out.2.2.1) (oa_4) n0).mono ?_
      rintro e w5 ⟨X5, e5, rfl, ou, hb5⟩
      have oa_5 := (oa_4).below hb5
      have ob_5 := (ob_4).below hb5
      have pa_5 := (pa_4).below hb5
      obtain ⟨paa_5, pab_5⟩ := (pa_5).two
      have pb_5 := (pb_4).below hb5
      obtain ⟨pba_5, pbb_5⟩ := (pb_5).two
      have z_5 : w4.heap.size ≤ w5.heap.size := hb5.size
      have B_5 := (B_4).trans (hb5.mono (by first | omega | (simp; omega) | simp))
      obtain ⟨paa_x5, pab_x5⟩ := ((pa_5).alloc (.cells #[.int .i64 u.1, .slice X5 u.2.length e5] 26)).two
      obtain ⟨pba_x5, pbb_x5⟩ := ((pb_5).alloc (.cells #[.int .i64 u.1, .slice X5 u.2.length e5] 26)).two
      obtain ⟨pua_x5, pub_x5⟩ := (Bx.new_ w5 (w5.heap.size) 26 #[.int .i64 u.1, .slice X5 u.2.length e5] (by simp)).two
      go_wp2_with fail
      refine (specValidPoly_ok (HE.out.2.2.2.1) ((ou).alloc (.cells #[.int .i64 u.1, .slice X5 u.2.length e5] 26)) nu).mono ?_
      rintro e w6 ⟨rfl, hb6⟩
      have oa_6 := ((oa_5).alloc (.cells #[.int .i64 u.1, .slice X5 u.2.length e5] 26)).below hb6
      have ob_6 := ((ob_5).alloc (.cells #[.int .i64 u.1, .slice X5 u.2.length e5] 26)).below hb6
      have pa_6 := ((pa_5).alloc (.cells #[.int .i64 u.1, .slice X5 u.2.length e5] 26)).below hb6
      obtain ⟨paa_6, pab_6⟩ := (pa_6).two
      have pb_6 := ((pb_5).alloc (.cells #[.int .i64 u.1, .slice X5 u.2.length e5] 26)).below hb6
      obtain ⟨pba_6, pbb_6⟩ := (pb_6).two
      have ou_6 := ((ou).alloc (.cells #[.int .i64 u.1, .slice X5 u.2.length e5] 26)).below hb6
      have pu_6 := (Bx.new_ w5 (w5.heap.size) 26 #[.int .i64 u.1, .slice X5 u.2.length e5] (by simp)).below hb6
      obtain ⟨pua_6, pub_6⟩ := (pu_6).two
      have z_6 : (w5.alloc (.cells #[.int .i64 u.1, .slice X5 u.2.length e5] 26)).heap.size ≤ w6.heap.size := hb6.size
      simp only [World.size_alloc] at z_6
      have B_6 := ((B_5).alloc (by first | omega | (simp; omega) | simp) (.cells #[.int .i64 u.1, .slice X5 u.2.length e5] 26)).trans (hb6.mono (by first | omega | (simp; omega) | simp))
      go_wp2_with fail
      refine (implInversePoly_ok (HE.out.2.2.2.2.1) (ou_6) nu).mono ?_
      rintro e w7 ⟨X7, e7, rfl, oz, hb7⟩
      have oa_7 := (oa_6).below hb7
      have ob_7 := (ob_6).below hb7
      have pa_7 := (pa_6).below hb7
      obtain ⟨paa_7, pab_7⟩ := (pa_7).two
      have pb_7 := (pb_6).below hb7
      obtain ⟨pba_7, pbb_7⟩ := (pb_7).two
      have ou_7 := (ou_6).below hb7
      have pu_7 := (pu_6).below hb7
      obtain ⟨pua_7, pub_7⟩ := (pu_7).two
      have z_7 : w6.heap.size ≤ w7.heap.size := hb7.size
      have B_7 := (B_6).trans (hb7.mono (by first | omega | (simp; omega) | simp))
      obtain ⟨paa_x6, pab_x6⟩ := ((pa_7).alloc (.cells #[.int .i64 q0.1, .slice X7 q0.2.length e7] 26)).two
      obtain ⟨pba_x6, pbb_x6⟩ := ((pb_7).alloc (.cells #[.int .i64 q0.1, .slice X7 q0.2.length e7] 26)).two
      obtain ⟨pua_x6, pub_x6⟩ := ((pu_7).alloc (.cells #[.int .i64 q0.1, .slice X7 q0.2.length e7] 26)).two
      obtain ⟨pza_x6, pzb_x6⟩ := (Bx.new_ w7 (w7.heap.size) 26 #[.int .i64 q0.1, .slice X7 q0.2.length e7] (by simp)).two
      go_wp2_with fail
      refine (specInversePoly_ok (HE.out.2.2.2.2.2.1) ((ob_7).alloc (.cells #[.int .i64 q0.1, .slice X7 q0.2.length e7] 26)) n1).mono ?_
      rintro e w8 ⟨X8, e8, rfl, ov, hb8⟩
      have oa_8 := ((oa_7).alloc (.cells #[.int .i64 q0.1, .slice X7 q0.2.length e7] 26)).below hb8
      have ob_8 := ((ob_7).alloc (.cells #[.int .i64 q0.1, .slice X7 q0.2.length e7] 26)).below hb8
      have pa_8 := ((pa_7).alloc (.cells #[.int .i64 q0.1, .slice X7 q0.2.length e7] 26)).below hb8
      obtain ⟨paa_8, pab_8⟩ := (pa_8).two
      have pb_8 := ((pb_7).alloc (.cells #[.int .i64 q0.1, .slice X7 q0.2.length e7] 26)).below hb8
      obtain ⟨pba_8, pbb_8⟩ := (pb_8).two
      have ou_8 := ((ou_7).alloc (.cells #[.int .i64 q0.1, .slice X7 q0.2.length e7] 26)).below hb8
      have pu_8 := ((pu_7).alloc (.cells #[.int .i64 q0.1, .slice X7 q0.2.length e7] 26)).below hb8
      obtain ⟨pua_8, pub_8⟩ := (pu_8).two
      have oz_8 := ((oz).alloc (.cells #[.int .i64 q0.1, .slice X7 q0.2.length e7] 26)).below hb8
      have pz_8 := (Bx.new_ w7 (w7.heap.size) 26 #[.int .i64 q0.1, .slice X7 q0.2.length e7] (by simp)).below hb8
      obtain ⟨pza_8, pzb_8⟩ := (pz_8).two
      have z_8 : (w7.alloc (.cells #[.int .i64 q0.1, .slice X7 q0.2.length e7] 26)).heap.size ≤ w8.heap.size := hb8.size
      simp only [World.size_alloc] at z_8
      have B_8 := ((B_7).alloc (by first | omega | (simp; omega) | simp) (.cells #[.int .i64 q0.1, .slice X7 q0.2.length e7] 26)).trans (hb8.mono (by first | omega | (simp; omega) | simp))
      obtain ⟨paa_x7, pab_x7⟩ := ((pa_8).alloc (.cells #[.int .i64 v.1, .slice X8 v.2.length e8] 26)).two
      obtain ⟨pba_x7, pbb_x7⟩ := ((pb_8).alloc (.cells #[.int .i64 v.1, .slice X8 v.2.length e8] 26)).two
      obtain ⟨pua_x7, pub_x7⟩ := ((pu_8).alloc (.cells #[.int .i64 v.1, .slice X8 v.2.length e8] 26)).two
      obtain ⟨pza_x7, pzb_x7⟩ := ((pz_8).alloc (.cells #[.int .i64 v.1, .slice X8 v.2.length e8] 26)).two
      obtain ⟨pva_x7, pvb_x7⟩ := (Bx.new_ w8 (w8.heap.size) 26 #[.int .i64 v.1, .slice X8 v.2.length e8] (by simp)).two
      go_wp2_with fail
      refine (specMulPolys_ok (HE.out.2.2.2.2.2.2.1) ((ou_8).alloc (.cells #[.int .i64 v.1, .slice X8 v.2.length e8] 26)) nu ((ov).alloc (.cells #[.int .i64 v.1, .slice X8 v.2.length e8] 26)) nv).mono ?_
      rintro e w9 ⟨X9, e9, rfl, op, hb9⟩
      have oa_9 := ((oa_8).alloc (.cells #[.int .i64 v.1, .slice X8 v.2.length e8] 26)).below hb9
      have ob_9 := ((ob_8).alloc (.cells #[.int .i64 v.1, .slice X8 v.2.length e8] 26)).below hb9
      have pa_9 := ((pa_8).alloc (.cells #[.int .i64 v.1, .slice X8 v.2.length e8] 26)).below hb9
      obtain ⟨paa_9, pab_9⟩ := (pa_9).two
      have pb_9 := ((pb_8).alloc (.cells #[.int .i64 v.1, .slice X8 v.2.length e8] 26)).below hb9
      obtain ⟨pba_9, pbb_9⟩ := (pb_9).two
      have ou_9 := ((ou_8).alloc (.cells #[.int .i64 v.1, .slice X8 v.2.length e8] 26)).below hb9
      have pu_9 := ((pu_8).alloc (.cells #[.int .i64 v.1, .slice X8 v.2.length e8] 26)).below hb9
      obtain ⟨pua_9, pub_9⟩ := (pu_9).two
      have oz_9 := ((oz_8).alloc (.cells #[.int .i64 v.1, .slice X8 v.2.length e8] 26)).below hb9
      have pz_9 := ((pz_8).alloc (.cells #[.int .i64 v.1, .slice X8 v.2.length e8] 26)).below hb9
      obtain ⟨pza_9, pzb_9⟩ := (pz_9).two
      have ov_9 := ((ov).alloc (.cells #[.int .i64 v.1, .slice X8 v.2.length e8] 26)).below hb9
      have pv_9 := (Bx.new_ w8 (w8.heap.size) 26 #[.int .i64 v.1, .slice X8 v.2.length e8] (by simp)).below hb9
      obtain ⟨pva_9, pvb_9⟩ := (pv_9).two
      have z_9 : (w8.alloc (.cells #[.int .i64 v.1, .slice X8 v.2.length e8] 26)).heap.size ≤ w9.heap.size := hb9.size
      simp only [World.size_alloc] at z_9
      have B_9 := ((B_8).alloc (by first | omega | (simp; omega) | simp) (.cells #[.int .i64 v.1, .slice X8 v.2.length e8] 26)).trans (hb9.mono (by first | omega | (simp; omega) | simp))
      obtain ⟨paa_x8, pab_x8⟩ := ((pa_9).alloc (.cells #[.int .i64 r.1, .slice X9 r.2.length e9] 26)).two
      obtain ⟨pba_x8, pbb_x8⟩ := ((pb_9).alloc (.cells #[.int .i64 r.1, .slice X9 r.2.length e9] 26)).two
      obtain ⟨pza_x8, pzb_x8⟩ := ((pz_9).alloc (.cells #[.int .i64 r.1, .slice X9 r.2.length e9] 26)).two
      obtain ⟨ppa_x8, ppb_x8⟩ := (Bx.new_ w9 (w9.heap.size) 26 #[.int .i64 r.1, .slice X9 r.2.length e9] (by simp)).two
      go_wp2_with fail
      refine (specMulPolys_ok (HE.out.2.2.2.2.2.2.2.1) ((oa_9).alloc (.cells #[.int .i64 r.1, .slice X9 r.2.length e9] 26)) n0 ((ob_9).alloc (.cells #[.int .i64 r.1, .slice X9 r.2.length e9] 26)) n1).mono ?_
      rintro e w10 ⟨X10, e10, rfl, oq, hb10⟩
      have oa_10 := ((oa_9).alloc (.cells #[.int .i64 r.1, .slice X9 r.2.length e9] 26)).below hb10
      have ob_10 := ((ob_9).alloc (.cells #[.int .i64 r.1, .slice X9 r.2.length e9] 26)).below hb10
      have pa_10 := ((pa_9).alloc (.cells #[.int .i64 r.1, .slice X9 r.2.length e9] 26)).below hb10
      obtain ⟨paa_10, pab_10⟩ := (pa_10).two
      have pb_10 := ((pb_9).alloc (.cells #[.int .i64 r.1, .slice X9 r.2.length e9] 26)).below hb10
      obtain ⟨pba_10, pbb_10⟩ := (pb_10).two
      have ou_10 := ((ou_9).alloc (.cells #[.int .i64 r.1, .slice X9 r.2.length e9] 26)).below hb10
      have pu_10 := ((pu_9).alloc (.cells #[.int .i64 r.1, .slice X9 r.2.length e9] 26)).below hb10
      obtain ⟨pua_10, pub_10⟩ := (pu_10).two
      have oz_10 := ((oz_9).alloc (.cells #[.int .i64 r.1, .slice X9 r.2.length e9] 26)).below hb10
      have pz_10 := ((pz_9).alloc (.cells #[.int .i64 r.1, .slice X9 r.2.length e9] 26)).below hb10
      obtain ⟨pza_10, pzb_10⟩ := (pz_10).two
      have ov_10 := ((ov_9).alloc (.cells #[.int .i64 r.1, .slice X9 r.2.length e9] 26)).below hb10
      have pv_10 := ((pv_9).alloc (.cells #[.int .i64 r.1, .slice X9 r.2.length e9] 26)).below hb10
      obtain ⟨pva_10, pvb_10⟩ := (pv_10).two
      have op_10 := ((op).alloc (.cells #[.int .i64 r.1, .slice X9 r.2.length e9] 26)).below hb10
      have pp_10 := (Bx.new_ w9 (w9.heap.size) 26 #[.int .i64 r.1, .slice X9 r.2.length e9] (by simp)).below hb10
      obtain ⟨ppa_10, ppb_10⟩ := (pp_10).two
      have z_10 : (w9.alloc (.cells #[.int .i64 r.1, .slice X9 r.2.length e9] 26)).heap.size ≤ w10.heap.size := hb10.size
      simp only [World.size_alloc] at z_10
      have B_10 := ((B_9).alloc (by first | omega | (simp; omega) | simp) (.cells #[.int .i64 r.1, .slice X9 r.2.length e9] 26)).trans (hb10.mono (by first | omega | (simp; omega) | simp))
      obtain ⟨paa_x9, pab_x9⟩ := ((pa_10).alloc (.cells #[.int .i64 q.1, .slice X10 q.2.length e10] 26)).two
      obtain ⟨pza_x9, pzb_x9⟩ := ((pz_10).alloc (.cells #[.int .i64 q.1, .slice X10 q.2.length e10] 26)).two
      obtain ⟨ppa_x9, ppb_x9⟩ := ((pp_10).alloc (.cells #[.int .i64 q.1, .slice X10 q.2.length e10] 26)).two
      obtain ⟨pqa_x9, pqb_x9⟩ := (Bx.new_ w10 (w10.heap.size) 26 #[.int .i64 q.1, .slice X10 q.2.length e10] (by simp)).two
      go_wp2_with fail
      refine (implInversePoly_ok (HE.out.2.2.2.2.2.2.2.2) ((oq).alloc (.cells #[.int .i64 q.1, .slice X10 q.2.length e10] 26)) nq).mono ?_
      rintro e w11 ⟨X11, e11, rfl, or, hb11⟩
      have oa_11 := ((oa_10).alloc (.cells #[.int .i64 q.1, .slice X10 q.2.length e10] 26)).below hb11
      have ob_11 := ((ob_10).alloc (.cells #[.int .i64 q.1, .slice X10 q.2.length e10] 26)).below hb11
      have pa_11 := ((pa_10).alloc (.cells #[.int .i64 q.1, .slice X10 q.2.length e10] 26)).below hb11
      obtain ⟨paa_11, pab_11⟩ := (pa_11).two
      have pb_11 := ((pb_10).alloc (.cells #[.int .i64 q.1, .slice X10 q.2.length e10] 26)).below hb11
      obtain ⟨pba_11, pbb_11⟩ := (pb_11).two
      have ou_11 := ((ou_10).alloc (.cells #[.int .i64 q.1, .slice X10 q.2.length e10] 26)).below hb11
      have pu_11 := ((pu_10).alloc (.cells #[.int .i64 q.1, .slice X10 q.2.length e10] 26)).below hb11
      obtain ⟨pua_11, pub_11⟩ := (pu_11).two
      have oz_11 := ((oz_10).alloc (.cells #[.int .i64 q.1, .slice X10 q.2.length e10] 26)).below hb11
      have pz_11 := ((pz_10).alloc (.cells #[.int .i64 q.1, .slice X10 q.2.length e10] 26)).below hb11
      obtain ⟨pza_11, pzb_11⟩ := (pz_11).two
      have ov_11 := ((ov_10).alloc (.cells #[.int .i64 q.1, .slice X10 q.2.length e10] 26)).below hb11
      have pv_11 := ((pv_10).alloc (.cells #[.int .i64 q.1, .slice X10 q.2.length e10] 26)).below hb11
      obtain ⟨pva_11, pvb_11⟩ := (pv_11).two
      have op_11 := ((op_10).alloc (.cells #[.int .i64 q.1, .slice X10 q.2.length e10] 26)).below hb11
      have pp_11 := ((pp_10).alloc (.cells #[.int .i64 q.1, .slice X10 q.2.length e10] 26)).below hb11
      obtain ⟨ppa_11, ppb_11⟩ := (pp_11).two
      have oq_11 := ((oq).alloc (.cells #[.int .i64 q.1, .slice X10 q.2.length e10] 26)).below hb11
      have pq_11 := (Bx.new_ w10 (w10.heap.size) 26 #[.int .i64 q.1, .slice X10 q.2.length e10] (by simp)).below hb11
      obtain ⟨pqa_11, pqb_11⟩ := (pq_11).two
      have z_11 : (w10.alloc (.cells #[.int .i64 q.1, .slice X10 q.2.length e10] 26)).heap.size ≤ w11.heap.size := hb11.size
      simp only [World.size_alloc] at z_11
      have B_11 := ((B_10).alloc (by first | omega | (simp; omega) | simp) (.cells #[.int .i64 q.1, .slice X10 q.2.length e10] 26)).trans (hb11.mono (by first | omega | (simp; omega) | simp))
      obtain ⟨paa_x10, pab_x10⟩ := ((pa_11).alloc (.cells #[.int .i64 r.1, .slice X11 r.2.length e11] 26)).two
      obtain ⟨pza_x10, pzb_x10⟩ := ((pz_11).alloc (.cells #[.int .i64 r.1, .slice X11 r.2.length e11] 26)).two
      obtain ⟨ppa_x10, ppb_x10⟩ := ((pp_11).alloc (.cells #[.int .i64 r.1, .slice X11 r.2.length e11] 26)).two
      obtain ⟨pra_x10, prb_x10⟩ := (Bx.new_ w11 (w11.heap.size) 26 #[.int .i64 r.1, .slice X11 r.2.length e11] (by simp)).two
      go_wp2_with fail
      refine (specSamePoly_ok ((oz_11).alloc (.cells #[.int .i64 r.1, .slice X11 r.2.length e11] 26)) n0 ((oa_11).alloc (.cells #[.int .i64 r.1, .slice X11 r.2.length e11] 26))).mono ?_
      rintro e w12 ⟨rfl, hb12⟩
      have oa_12 := ((oa_11).alloc (.cells #[.int .i64 r.1, .slice X11 r.2.length e11] 26)).below hb12
      have ob_12 := ((ob_11).alloc (.cells #[.int .i64 r.1, .slice X11 r.2.length e11] 26)).below hb12
      have pa_12 := ((pa_11).alloc (.cells #[.int .i64 r.1, .slice X11 r.2.length e11] 26)).below hb12
      obtain ⟨paa_12, pab_12⟩ := (pa_12).two
      have pb_12 := ((pb_11).alloc (.cells #[.int .i64 r.1, .slice X11 r.2.length e11] 26)).below hb12
      obtain ⟨pba_12, pbb_12⟩ := (pb_12).two
      have ou_12 := ((ou_11).alloc (.cells #[.int .i64 r.1, .slice X11 r.2.length e11] 26)).below hb12
      have pu_12 := ((pu_11).alloc (.cells #[.int .i64 r.1, .slice X11 r.2.length e11] 26)).below hb12
      obtain ⟨pua_12, pub_12⟩ := (pu_12).two
      have oz_12 := ((oz_11).alloc (.cells #[.int .i64 r.1, .slice X11 r.2.length e11] 26)).below hb12
      have pz_12 := ((pz_11).alloc (.cells #[.int .i64 r.1, .slice X11 r.2.length e11] 26)).below hb12
      obtain ⟨pza_12, pzb_12⟩ := (pz_12).two
      have ov_12 := ((ov_11).alloc (.cells #[.int .i64 r.1, .slice X11 r.2.length e11] 26)).below hb12
      have pv_12 := ((pv_11).alloc (.cells #[.int .i64 r.1, .slice X11 r.2.length e11] 26)).below hb12
      obtain ⟨pva_12, pvb_12⟩ := (pv_12).two
      have op_12 := ((op_11).alloc (.cells #[.int .i64 r.1, .slice X11 r.2.length e11] 26)).below hb12
      have pp_12 := ((pp_11).alloc (.cells #[.int .i64 r.1, .slice X11 r.2.length e11] 26)).below hb12
      obtain ⟨ppa_12, ppb_12⟩ := (pp_12).two
      have oq_12 := ((oq_11).alloc (.cells #[.int .i64 r.1, .slice X11 r.2.length e11] 26)).below hb12
      have pq_12 := ((pq_11).alloc (.cells #[.int .i64 r.1, .slice X11 r.2.length e11] 26)).below hb12
      obtain ⟨pqa_12, pqb_12⟩ := (pq_12).two
      have or_12 := ((or).alloc (.cells #[.int .i64 r.1, .slice X11 r.2.length e11] 26)).below hb12
      have pr_12 := (Bx.new_ w11 (w11.heap.size) 26 #[.int .i64 r.1, .slice X11 r.2.length e11] (by simp)).below hb12
      obtain ⟨pra_12, prb_12⟩ := (pr_12).two
      have z_12 : (w11.alloc (.cells #[.int .i64 r.1, .slice X11 r.2.length e11] 26)).heap.size ≤ w12.heap.size := hb12.size
      simp only [World.size_alloc] at z_12
      have B_12 := ((B_11).alloc (by first | omega | (simp; omega) | simp) (.cells #[.int .i64 r.1, .slice X11 r.2.length e11] 26)).trans (hb12.mono (by first | omega | (simp; omega) | simp))
      go_wp2_with fail
      refine (specSamePoly_ok (or_12) nr (op_12)).mono ?_
      rintro e w13 ⟨rfl, hb13⟩
      have oa_13 := (oa_12).below hb13
      have ob_13 := (ob_12).below hb13
      have pa_13 := (pa_12).below hb13
      obtain ⟨paa_13, pab_13⟩ := (pa_13).two
      have pb_13 := (pb_12).below hb13
      obtain ⟨pba_13, pbb_13⟩ := (pb_13).two
      have ou_13 := (ou_12).below hb13
      have pu_13 := (pu_12).below hb13
      obtain ⟨pua_13, pub_13⟩ := (pu_13).two
      have oz_13 := (oz_12).below hb13
      have pz_13 := (pz_12).below hb13
      obtain ⟨pza_13, pzb_13⟩ := (pz_13).two
      have ov_13 := (ov_12).below hb13
      have pv_13 := (pv_12).below hb13
      obtain ⟨pva_13, pvb_13⟩ := (pv_13).two
      have op_13 := (op_12).below hb13
      have pp_13 := (pp_12).below hb13
      obtain ⟨ppa_13, ppb_13⟩ := (pp_13).two
      have oq_13 := (oq_12).below hb13
      have pq_13 := (pq_12).below hb13
      obtain ⟨pqa_13, pqb_13⟩ := (pq_13).two
      have or_13 := (or_12).below hb13
      have pr_13 := (pr_12).below hb13
      obtain ⟨pra_13, prb_13⟩ := (pr_13).two
      have z_13 : w12.heap.size ≤ w13.heap.size := hb13.size
      have B_13 := (B_12).trans (hb13.mono (by first | omega | (simp; omega) | simp))
      go_wp2_with fail
      obtain ⟨htne, htb⟩ := HTB.out
      refine (HTXX.out _ _ _ _ (oa_13)).mono ?_
      rintro e w14 ⟨rfl, hb14⟩
      have oa_14 := (oa_13).below hb14
      have ob_14 := (ob_13).below hb14
      have pa_14 := (pa_13).below hb14
      obtain ⟨paa_14, pab_14⟩ := (pa_14).two
      have pb_14 := (pb_13).below hb14
      obtain ⟨pba_14, pbb_14⟩ := (pb_14).two
      have ou_14 := (ou_13).below hb14
      have pu_14 := (pu_13).below hb14
      obtain ⟨pua_14, pub_14⟩ := (pu_14).two
      have oz_14 := (oz_13).below hb14
      have pz_14 := (pz_13).below hb14
      obtain ⟨pza_14, pzb_14⟩ := (pz_14).two
      have ov_14 := (ov_13).below hb14
      have pv_14 := (pv_13).below hb14
      obtain ⟨pva_14, pvb_14⟩ := (pv_14).two
      have op_14 := (op_13).below hb14
      have pp_14 := (pp_13).below hb14
      obtain ⟨ppa_14, ppb_14⟩ := (pp_14).two
      have oq_14 := (oq_13).below hb14
      have pq_14 := (pq_13).below hb14
      obtain ⟨pqa_14, pqb_14⟩ := (pq_14).two
      have or_14 := (or_13).below hb14
      have pr_14 := (pr_13).below hb14
      obtain ⟨pra_14, prb_14⟩ := (pr_14).two
      have z_14 : w13.heap.size ≤ w14.heap.size := hb14.size
      have B_14 := (B_13).trans (hb14.mono (by first | omega | (simp; omega) | simp))
      go_wp2_with fail
      go_ret
      exact ⟨by simp, (B_14)⟩
end Go.Proofs.Ytffiejlfnecanaa
