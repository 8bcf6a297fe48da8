/-
  Contracts: NormalBracket, of the reference and of the program. Conditions: the lengths are far below the machine's.
-/
import Derived.Test.YtjlifbdaieblpaaGreatBr4
import Derived.Test.YtjlifbdaieblpaaGreatPolySum
import Derived.Test.YtjlifbdaieblpaaGreatPolyShift
import Derived.Test.YtjlifbdaieblpaaGreatTr13
namespace Go.Proofs.YtjlifbdaieblpaaGreat
open Go.RowKit
set_option linter.unusedVariables false

theorem fold_pm (l : List Int) : ∀ s : Int, (∀ x ∈ l, x = 1 ∨ x = -1) → s.natAbs + l.length ≤ 1000000 → (l.foldl (fun s x => wrap64 (s + x)) s).natAbs ≤ s.natAbs + l.length := by
  induction l with
  | nil => intro s _ _; exact Nat.le_refl _
  | cons x l ih =>
    intro s h h1
    have hx := h x List.mem_cons_self
    rw [List.length_cons] at h1 ⊢
    have hw : wrap64 (s + x) = s + x := by unfold wrap64; omega
    have := ih (s + x) (fun y hy => h y (List.mem_cons_of_mem _ hy)) (by omega)
    rw [List.foldl_cons, hw]
    omega
theorem sumW_pm {l : List Int} (h : ∀ x ∈ l, x = 1 ∨ x = -1) (hn : l.length ≤ 1000) : -(l.length : Int) ≤ sumW l ∧ sumW l ≤ l.length := by
  have := fold_pm l 0 h (by simp; omega)
  unfold sumW
  omega
theorem writhe_b {wd ht : Int} {xs : List Int} (hs : Sz wd ht) (hl : (xs.length : Int) = innerN wd ht) (h8 : crN xs ≤ 8) : -8 ≤ sumW (sgL wd ht xs) ∧ sumW (sgL wd ht xs) ≤ 8 := by
  have h1 := sgL_len (xs := xs) hs hl
  have h2 : (zTo xs xs.length).length = crN xs := rfl
  have := sumW_pm (l := sgL wd ht xs) (fun x hx => sgL_pm hx) (by omega)
  omega
/-- the factor of the normal bracket -/
def nbT (W : Int) : Int := if W.tmod 2 = 0 then 1 else -1
/-- the normal bracket of a panel, and its code -/
noncomputable def nbR (wd ht : Int) (xs : List Int) : (Int × List Int) × Int := if brC wd ht xs = 0 then (shiftP (brTo wd ht xs (2 ^ crN xs)).1 (brTo wd ht xs (2 ^ crN xs)).2 (-3 * sumW (sgL wd ht xs)) (nbT (sumW (sgL wd ht xs))), 0) else ((0, []), brC wd ht xs)
theorem nbR_ok {wd ht : Int} {xs : List Int} (h : brC wd ht xs = 0) : nbR wd ht xs = (shiftP (brTo wd ht xs (2 ^ crN xs)).1 (brTo wd ht xs (2 ^ crN xs)).2 (-3 * sumW (sgL wd ht xs)) (nbT (sumW (sgL wd ht xs))), 0) := by unfold nbR; rw [if_pos h]
theorem nbR_no {wd ht : Int} {xs : List Int} (h : ¬ brC wd ht xs = 0) : nbR wd ht xs = ((0, []), brC wd ht xs) := by unfold nbR; rw [if_neg h]
theorem nbR_bk {wd ht : Int} {xs : List Int} (h : brC wd ht xs = 0) : BK 1100 (shiftP (brTo wd ht xs (2 ^ crN xs)).1 (brTo wd ht xs (2 ^ crN xs)).2 (-3 * sumW (sgL wd ht xs)) (nbT (sumW (sgL wd ht xs)))) := by
  obtain ⟨h1, h2, _⟩ := brC_zero h
  obtain ⟨hs, hl⟩ := vld_sz h1
  have hb := brTo_bk (ht := ht) hs h2 (2 ^ crN xs)
  have hw := writhe_b hs hl h2
  rw [← mulP_one]
  refine BK.mono (mulP_bk (K0 := 1000) (K1 := 25) (q1 := (-3 * sumW (sgL wd ht xs), [nbT (sumW (sgL wd ht xs))])) hb ?_) (by omega)
  unfold BK
  simp only [List.length_cons, List.length_nil]
  omega
theorem nbR_len {wd ht : Int} {xs : List Int} : (nbR wd ht xs).1.2.length ≤ 3000 := by
  by_cases h : brC wd ht xs = 0
  · rw [nbR_ok h]
    have := nbR_bk h
    unfold BK at this
    dsimp only
    omega
  · rw [nbR_no h]
    simp

set_option maxRecDepth 20000 in
set_option maxHeartbeats 4000000 in
theorem implNormalBracket_any (wd ht : Int) (A : Option Addr) (c : Nat) (xs : List Int) (w : World) (hxs : RI w A xs) (hcap : xs.length ≤ c ∧ c ≤ 9223372036854775807) (hn : xs.length ≤ 1048576) :
    Calls Tryz.prog 7 #[.agg #[.int .i64 wd, .int .i64 ht, .slice A xs.length c]] w (RetPC w (nbR wd ht xs).1.1 (nbR wd ht xs).1.2 (nbR wd ht xs).2) := by
  obtain ⟨pa_x1, pb_x1, pc_x1⟩ := ((Bx.new_ w (w.heap.size) 26 #[.int .i64 wd, .int .i64 ht, .slice A xs.length c] (by simp)).alloc (.cells #[.int .i64 0, .slice none 0 0] 29)).three
  obtain ⟨ra_x1, rb_x1⟩ := (Bx.new_ (w.alloc (.cells #[.int .i64 wd, .int .i64 ht, .slice A xs.length c] 26)) (w.heap.size + 1) 29 #[.int .i64 0, .slice none 0 0] (by simp)).two
  have rf0_x1 := (Bx.new_ (w.alloc (.cells #[.int .i64 wd, .int .i64 ht, .slice A xs.length c] 26)) (w.heap.size + 1) 29 #[.int .i64 0, .slice none 0 0] (by simp)).frozen 0
  have rf1_x1 := (Bx.new_ (w.alloc (.cells #[.int .i64 wd, .int .i64 ht, .slice A xs.length c] 26)) (w.heap.size + 1) 29 #[.int .i64 0, .slice none 0 0] (by simp)).frozen 1
  have HCODE := hide (bracketCode_any wd ht A c xs ((w.alloc (.cells #[.int .i64 wd, .int .i64 ht, .slice A xs.length c] 26)).alloc (.cells #[.int .i64 0, .slice none 0 0] 29)) (hxs.below (((Below.refl w.heap.size w).alloc (by first | omega | (simp; omega) | simp) (.cells #[.int .i64 wd, .int .i64 ht, .slice A xs.length c] 26)).alloc (by first | omega | (simp; omega) | simp) (.cells #[.int .i64 0, .slice none 0 0] 29))) hn)
  by_cases h0 : brC wd ht xs = 0
  · obtain ⟨hv, h8, _⟩ := brC_zero h0
    obtain ⟨hs, hl⟩ := vld_sz hv
    have HR := hide (nbR_ok h0)
    have HC0 := hide h0
    have HQB := hide (brTo_bk (ht := ht) hs h8 (2 ^ crN xs))
    have hsl : (sgL wd ht xs).length ≤ 1048576 := by have h1 := sgL_len (xs := xs) hs hl; have h2 : (zTo xs xs.length).length = crN xs := rfl; omega
    have hwb := writhe_b hs hl h8
    have HBR := hide (fun (W : World) (h : RI W A xs) => bracket_any wd ht A c xs W h hn hs hl h8)
    have HSG := hide (fun (W : World) (h : RI W A xs) => signs_any wd ht A c xs W h hcap hs hl hn)
    have HSU := hide (fun (W : World) (B : Option Addr) (d : Nat) (h : RI W B (sgL wd ht xs)) => sumOf_any B d _ W h hsl)
    obtain ⟨q, hq⟩ : ∃ q, q = brTo wd ht xs (2 ^ crN xs) := ⟨_, rfl⟩
    rw [← hq] at HR HBR HQB
    obtain ⟨sg, hsg⟩ : ∃ sg, sg = sgL wd ht xs := ⟨_, rfl⟩
    rw [← hsg] at HR HSG HSU hwb
    obtain ⟨V, hV⟩ : ∃ V, V = sumW sg := ⟨_, rfl⟩
    rw [← hV] at HR HSU hwb
    have hvw : IntKind.i64.wrap (-3 * V) = -3 * V := by rw [IntKind.wrap_i64]; omega
    obtain ⟨u, hu⟩ : ∃ u, u = nbT V := ⟨_, rfl⟩
    rw [← hu] at HR
    have HSH := hide (fun (W : World) (B : Option Addr) (d : Nat) (h : RI W B q.2) => shiftPoly_any q.1 B d q.2 (-3 * V) u W h (by have := HQB.out; unfold BK at this; omega) (by have := HQB.out; unfold BK at this; omega) (by omega) (by omega) (by have := HQB.out; unfold BK at this; omega))
    obtain ⟨q2, hq2⟩ : ∃ q2, q2 = shiftP q.1 q.2 (-3 * V) u := ⟨_, rfl⟩
    rw [← hq2] at HR HSH
    clear h0 hs hl hq hv h8 hsg hV hq2 hsl
    by_cases ht2 : V.tmod 2 = 0
    · have hu1 : u = 1 := by rw [hu]; unfold nbT; rw [if_pos ht2]
      have hd : decide (V.tmod 2 = 0) = true := by simpa using ht2
      have hd2 : (V.tmod 2 != 0) = false := by simp [ht2]
      rw [hu1] at HSH
      clear hu hu1
      go_enter Tryz.func7, Tryz.ntmps7
      go_wp2_with fail
      refine ((HCODE.out)).mono ?_
      rintro e w1 ⟨rfl, hb1⟩
      have p_1 := ((Bx.new_ w (w.heap.size) 26 #[.int .i64 wd, .int .i64 ht, .slice A xs.length c] (by simp)).alloc (.cells #[.int .i64 0, .slice none 0 0] 29)).below hb1
      obtain ⟨pa_1, pb_1, pc_1⟩ := (p_1).three
      have r_1 := (Bx.new_ (w.alloc (.cells #[.int .i64 wd, .int .i64 ht, .slice A xs.length c] 26)) (w.heap.size + 1) 29 #[.int .i64 0, .slice none 0 0] (by simp)).below hb1
      obtain ⟨ra_1, rb_1⟩ := (r_1).two
      have rf0_1 := (r_1).frozen 0
      have rf1_1 := (r_1).frozen 1
      have z_1 : ((w.alloc (.cells #[.int .i64 wd, .int .i64 ht, .slice A xs.length c] 26)).alloc (.cells #[.int .i64 0, .slice none 0 0] 29)).heap.size ≤ w1.heap.size := hb1.size
      simp only [World.size_alloc] at z_1
      have B_1 := (((Below.refl w.heap.size w).alloc (by first | omega | (simp; omega) | simp) (.cells #[.int .i64 wd, .int .i64 ht, .slice A xs.length c] 26)).alloc (by first | omega | (simp; omega) | simp) (.cells #[.int .i64 0, .slice none 0 0] 29)).trans (hb1.mono (by first | omega | (simp; omega) | simp))
      rw [HC0.out]
      have B1x := hide ((B_1))
      go_wp2_with fail
      refine (HSG.out _ (hxs.below (B_1))).mono ?_
      rintro e w2 ⟨A2, c2, rfl, own2, hb2⟩
      have p_2 := (p_1).below hb2
      obtain ⟨pa_2, pb_2, pc_2⟩ := (p_2).three
      have r_2 := (r_1).below hb2
      obtain ⟨ra_2, rb_2⟩ := (r_2).two
      have rf0_2 := (r_2).frozen 0
      have rf1_2 := (r_2).frozen 1
      have z_2 : w1.heap.size ≤ w2.heap.size := hb2.size
      have B_2 := (B_1).trans (hb2.mono (by first | omega | (simp; omega) | simp))
      go_wp2_with fail
      refine (HSU.out _ A2 c2 own2.rd).mono ?_
      rintro e w2' ⟨rfl, rfl⟩
      clear own2
      go_wp2_with fail
      refine (HBR.out _ (hxs.below (B_2))).mono ?_
      rintro e w3 ⟨A3, c3, rfl, own3, hb3⟩
      have p_3 := (p_2).below hb3
      obtain ⟨pa_3, pb_3, pc_3⟩ := (p_3).three
      have r_3 := (r_2).below hb3
      obtain ⟨ra_3, rb_3⟩ := (r_3).two
      have rf0_3 := (r_3).frozen 0
      have rf1_3 := (r_3).frozen 1
      have z_3 : w2.heap.size ≤ w3.heap.size := hb3.size
      have B_3 := (B_2).trans (hb3.mono (by first | omega | (simp; omega) | simp))
      go_wp2_with fail
      refine (HSH.out _ A3 c3 own3.rd).mono ?_
      rintro e w4 ⟨A4, c4, rfl, own4, hb4⟩
      have p_4 := (p_3).below hb4
      obtain ⟨pa_4, pb_4, pc_4⟩ := (p_4).three
      have r_4 := (r_3).below hb4
      obtain ⟨ra_4, rb_4⟩ := (r_4).two
      have rf0_4 := (r_4).frozen 0
      have rf1_4 := (r_4).frozen 1
      have z_4 : w3.heap.size ≤ w4.heap.size := hb4.size
      have B_4 := (B_3).trans (hb4.mono (by first | omega | (simp; omega) | simp))
      have r2 := r_4
      have B2 := B_4
      have HZ1 : Hid (w.heap.size + 2 ≤ w3.heap.size) := hide (by have := (r_3).lt; omega)
      obtain ⟨za, zb⟩ := r2.two
      have f0 := r2.frozen 0
      have f1 := r2.frozen 1
      have HRQ := hide (r2.put2 (u0 := .int .i64 q2.1) (u1 := .slice A4 q2.2.length c4)).two
      have OWN := hide ((own4.far2 (b := w.heap.size + 1) (o0 := 0) (o1 := 1) (u0 := .int .i64 q2.1) (u1 := .slice A4 q2.2.length c4) (fun g hg => by have := (own4.ge hg).1; have := HZ1.out; omega)).mono (show w.heap.size ≤ w3.heap.size by have := HZ1.out; omega))
      have HB := hide (below_put2 (b := w.heap.size + 1) (o0 := 0) (o1 := 1) (u0 := .int .i64 q2.1) (u1 := .slice A4 q2.2.length c4) B2 (by omega))
      clear own3 own4 r2 B2
      go_wp2_with fail
      obtain ⟨ra_9, rb_9⟩ := HRQ.out
      refine bodyPost_ret (v := .tuple #[.agg #[.int .i64 q2.1, .slice A4 q2.2.length c4], .int .i64 0]) (by simp [results, Tryz.results7, go_sem, ra_9, rb_9]) rfl ?_
      rw [HR.out]
      exact ⟨A4, c4, rfl, OWN.out, HB.out⟩
    · have hu1 : u = -1 := by rw [hu]; unfold nbT; rw [if_neg ht2]
      have hd : decide (V.tmod 2 = 0) = false := by simpa using ht2
      have hd2 : (V.tmod 2 != 0) = true := by simp [ht2]
      rw [hu1] at HSH
      clear hu hu1
      go_enter Tryz.func7, Tryz.ntmps7
      go_wp2_with fail
      refine ((HCODE.out)).mono ?_
      rintro e w1 ⟨rfl, hb1⟩
      have p_1 := ((Bx.new_ w (w.heap.size) 26 #[.int .i64 wd, .int .i64 ht, .slice A xs.length c] (by simp)).alloc (.cells #[.int .i64 0, .slice none 0 0] 29)).below hb1
      obtain ⟨pa_1, pb_1, pc_1⟩ := (p_1).three
      have r_1 := (Bx.new_ (w.alloc (.cells #[.int .i64 wd, .int .i64 ht, .slice A xs.length c] 26)) (w.heap.size + 1) 29 #[.int .i64 0, .slice none 0 0] (by simp)).below hb1
      obtain ⟨ra_1, rb_1⟩ := (r_1).two
      have rf0_1 := (r_1).frozen 0
      have rf1_1 := (r_1).frozen 1
      have z_1 : ((w.alloc (.cells #[.int .i64 wd, .int .i64 ht, .slice A xs.length c] 26)).alloc (.cells #[.int .i64 0, .slice none 0 0] 29)).heap.size ≤ w1.heap.size := hb1.size
      simp only [World.size_alloc] at z_1
      have B_1 := (((Below.refl w.heap.size w).alloc (by first | omega | (simp; omega) | simp) (.cells #[.int .i64 wd, .int .i64 ht, .slice A xs.length c] 26)).alloc (by first | omega | (simp; omega) | simp) (.cells #[.int .i64 0, .slice none 0 0] 29)).trans (hb1.mono (by first | omega | (simp; omega) | simp))
      rw [HC0.out]
      have B1x := hide ((B_1))
      go_wp2_with fail
      refine (HSG.out _ (hxs.below (B_1))).mono ?_
      rintro e w2 ⟨A2, c2, rfl, own2, hb2⟩
      have p_2 := (p_1).below hb2
      obtain ⟨pa_2, pb_2, pc_2⟩ := (p_2).three
      have r_2 := (r_1).below hb2
      obtain ⟨ra_2, rb_2⟩ := (r_2).two
      have rf0_2 := (r_2).frozen 0
      have rf1_2 := (r_2).frozen 1
      have z_2 : w1.heap.size ≤ w2.heap.size := hb2.size
      have B_2 := (B_1).trans (hb2.mono (by first | omega | (simp; omega) | simp))
      go_wp2_with fail
      refine (HSU.out _ A2 c2 own2.rd).mono ?_
      rintro e w2' ⟨rfl, rfl⟩
      clear own2
      go_wp2_with fail
      refine (HBR.out _ (hxs.below (B_2))).mono ?_
      rintro e w3 ⟨A3, c3, rfl, own3, hb3⟩
      have p_3 := (p_2).below hb3
      obtain ⟨pa_3, pb_3, pc_3⟩ := (p_3).three
      have r_3 := (r_2).below hb3
      obtain ⟨ra_3, rb_3⟩ := (r_3).two
      have rf0_3 := (r_3).frozen 0
      have rf1_3 := (r_3).frozen 1
      have z_3 : w2.heap.size ≤ w3.heap.size := hb3.size
      have B_3 := (B_2).trans (hb3.mono (by first | omega | (simp; omega) | simp))
      go_wp2_with fail
      refine (HSH.out _ A3 c3 own3.rd).mono ?_
      rintro e w4 ⟨A4, c4, rfl, own4, hb4⟩
      have p_4 := (p_3).below hb4
      obtain ⟨pa_4, pb_4, pc_4⟩ := (p_4).three
      have r_4 := (r_3).below hb4
      obtain ⟨ra_4, rb_4⟩ := (r_4).two
      have rf0_4 := (r_4).frozen 0
      have rf1_4 := (r_4).frozen 1
      have z_4 : w3.heap.size ≤ w4.heap.size := hb4.size
      have B_4 := (B_3).trans (hb4.mono (by first | omega | (simp; omega) | simp))
      have r2 := r_4
      have B2 := B_4
      have HZ1 : Hid (w.heap.size + 2 ≤ w3.heap.size) := hide (by have := (r_3).lt; omega)
      obtain ⟨za, zb⟩ := r2.two
      have f0 := r2.frozen 0
      have f1 := r2.frozen 1
      have HRQ := hide (r2.put2 (u0 := .int .i64 q2.1) (u1 := .slice A4 q2.2.length c4)).two
      have OWN := hide ((own4.far2 (b := w.heap.size + 1) (o0 := 0) (o1 := 1) (u0 := .int .i64 q2.1) (u1 := .slice A4 q2.2.length c4) (fun g hg => by have := (own4.ge hg).1; have := HZ1.out; omega)).mono (show w.heap.size ≤ w3.heap.size by have := HZ1.out; omega))
      have HB := hide (below_put2 (b := w.heap.size + 1) (o0 := 0) (o1 := 1) (u0 := .int .i64 q2.1) (u1 := .slice A4 q2.2.length c4) B2 (by omega))
      clear own3 own4 r2 B2
      go_wp2_with fail
      obtain ⟨ra_9, rb_9⟩ := HRQ.out
      refine bodyPost_ret (v := .tuple #[.agg #[.int .i64 q2.1, .slice A4 q2.2.length c4], .int .i64 0]) (by simp [results, Tryz.results7, go_sem, ra_9, rb_9]) rfl ?_
      rw [HR.out]
      exact ⟨A4, c4, rfl, OWN.out, HB.out⟩
  ·
    have HR := hide (nbR_no h0)
    obtain ⟨v, hvv⟩ : ∃ v, v = brC wd ht xs := ⟨_, rfl⟩
    rw [← hvv] at HR h0
    have HVV := hide hvv
    have d0 : (v != 0) = true := by simpa using h0
    clear h0 hvv
    go_enter Tryz.func7, Tryz.ntmps7
    go_wp2_with fail
    refine ((HCODE.out)).mono ?_
    rintro e w1 ⟨rfl, hb1⟩
    have p_1 := ((Bx.new_ w (w.heap.size) 26 #[.int .i64 wd, .int .i64 ht, .slice A xs.length c] (by simp)).alloc (.cells #[.int .i64 0, .slice none 0 0] 29)).below hb1
    obtain ⟨pa_1, pb_1, pc_1⟩ := (p_1).three
    have r_1 := (Bx.new_ (w.alloc (.cells #[.int .i64 wd, .int .i64 ht, .slice A xs.length c] 26)) (w.heap.size + 1) 29 #[.int .i64 0, .slice none 0 0] (by simp)).below hb1
    obtain ⟨ra_1, rb_1⟩ := (r_1).two
    have rf0_1 := (r_1).frozen 0
    have rf1_1 := (r_1).frozen 1
    have z_1 : ((w.alloc (.cells #[.int .i64 wd, .int .i64 ht, .slice A xs.length c] 26)).alloc (.cells #[.int .i64 0, .slice none 0 0] 29)).heap.size ≤ w1.heap.size := hb1.size
    simp only [World.size_alloc] at z_1
    have B_1 := (((Below.refl w.heap.size w).alloc (by first | omega | (simp; omega) | simp) (.cells #[.int .i64 wd, .int .i64 ht, .slice A xs.length c] 26)).alloc (by first | omega | (simp; omega) | simp) (.cells #[.int .i64 0, .slice none 0 0] 29)).trans (hb1.mono (by first | omega | (simp; omega) | simp))
    rw [← HVV.out]
    have r3 := (r_1).put2 (u0 := .int .i64 0) (u1 := .slice none 0 0)
    have HRQ := hide r3.two
    have HB := hide (below_put2 (b := w.heap.size + 1) (o0 := 0) (o1 := 1) (u0 := .int .i64 0) (u1 := .slice none 0 0) (B_1) (by omega))
    clear r3
    go_wp2_with fail
    obtain ⟨ra_9, rb_9⟩ := HRQ.out
    refine bodyPost_ret (v := .tuple #[.agg #[.int .i64 0, .slice none 0 0], .int .i64 v]) (by simp [results, Tryz.results7, go_sem, ra_9, rb_9]) rfl ?_
    rw [HR.out]
    exact ⟨none, 0, rfl, OwnI.nil _ _, HB.out⟩
end Go.Proofs.YtjlifbdaieblpaaGreat
