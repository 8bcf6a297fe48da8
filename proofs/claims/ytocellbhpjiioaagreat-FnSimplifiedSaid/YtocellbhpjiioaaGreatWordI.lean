/-
  The move that a word tells: the contract of the program's function. Conditions: the word's length is far below the machine's.
-/
import Derived.Test.YtocellbhpjiioaaGreatWord
namespace Go.Proofs.YtocellbhpjiioaaGreat
open Go.RowKit
set_option linter.unusedVariables false

def loop5 : List UInt8 := [108, 111, 111, 112, 58]
def pair5 : List UInt8 := [112, 97, 105, 114, 58]
theorem mvW_five (l : List UInt8) : mvW l = if l.take 5 = loop5 ∧ (spl 44 (l.drop 5)).length = 1 ∧ (numV ((spl 44 (l.drop 5)).getD 0 [])).2 = true then some (1, (numV ((spl 44 (l.drop 5)).getD 0 [])).1, 0)
    else if l.take 5 = pair5 ∧ (spl 44 (l.drop 5)).length = 2 ∧ (numV ((spl 44 (l.drop 5)).getD 0 [])).2 = true ∧ (numV ((spl 44 (l.drop 5)).getD 1 [])).2 = true then some (2, (numV ((spl 44 (l.drop 5)).getD 0 [])).1, (numV ((spl 44 (l.drop 5)).getD 1 [])).1) else none := by
  unfold mvW
  by_cases h1 : l.take 5 = loop5
  · have h4 : l.take 4 = loop4 := (take5_eq (q := loop4) rfl h1).2
    have h2 : ¬ l.take 5 = pair5 := fun h => by rw [h1] at h; exact absurd h (by decide)
    rw [if_pos (.inl h1), h4]
    unfold wdS
    by_cases h3 : (spl 44 (l.drop 5)).length = 1 ∧ (numV ((spl 44 (l.drop 5)).getD 0 [])).2 = true
    · rw [if_pos ⟨rfl, h3⟩, if_pos ⟨h1, h3⟩]
    · rw [if_neg (fun h => h3 h.2), if_neg (fun h => absurd h.1 (by decide)), if_neg (fun h => h3 h.2), if_neg (fun h => h2 h.1)]
  · by_cases h2 : l.take 5 = pair5
    · have h4 : l.take 4 = pair4 := (take5_eq (q := pair4) rfl h2).2
      rw [if_pos (.inr h2), h4, if_neg (fun h => h1 h.1)]
      unfold wdS
      rw [if_neg (fun h => absurd h.1 (by decide))]
      by_cases h3 : (spl 44 (l.drop 5)).length = 2 ∧ (numV ((spl 44 (l.drop 5)).getD 0 [])).2 = true ∧ (numV ((spl 44 (l.drop 5)).getD 1 [])).2 = true
      · rw [if_pos ⟨rfl, h3⟩, if_pos ⟨h2, h3⟩]
      · rw [if_neg (fun h => h3 h.2), if_neg (fun h => h3 h.2)]
    · rw [if_neg (fun h => h.elim h1 h2), if_neg (fun h => h1 h.1), if_neg (fun h => h2 h.1)]
/-- the move of a word, or none of any form -/
def mvD (l : List UInt8) : Mv := (mvW l).getD (0, 0, 0)
set_option maxRecDepth 20000 in
set_option maxHeartbeats 8000000 in
theorem readMove_any (l : List UInt8) (w : World) (hn : l.length ≤ 1048576) : Calls Tryz.prog 41 #[str l] w (RetV w (.agg #[.int .i64 (mvD l).1, .int .i64 (mvD l).2.1, .int .i64 (mvD l).2.2])) := by
  have hlen := fun (W : World) => str_len_ (P := Tryz.prog) W 9 Tryz.underlying9 3 l
  obtain ⟨ra_x1, rb_x1, rc_x1⟩ := (Bx.new_ w (w.heap.size) 46 #[.int .i64 0, .int .i64 0, .int .i64 0] (by simp)).three
  have rf0_x1 := (Bx.new_ w (w.heap.size) 46 #[.int .i64 0, .int .i64 0, .int .i64 0] (by simp)).frozen 0
  have rf1_x1 := (Bx.new_ w (w.heap.size) 46 #[.int .i64 0, .int .i64 0, .int .i64 0] (by simp)).frozen 1
  have rf2_x1 := (Bx.new_ w (w.heap.size) 46 #[.int .i64 0, .int .i64 0, .int .i64 0] (by simp)).frozen 2
  by_cases h5 : l.length < 5
  · have HV : Hid (mvD l = (0, 0, 0)) := hide (by unfold mvD; rw [mvW_short h5]; rfl)
    have f1 : (l.length : Int) < 5 := by omega
    have HR := hide (((((Bx.new_ w (w.heap.size) 46 #[.int .i64 0, .int .i64 0, .int .i64 0] (by simp)).set_ 0 (.int .i64 0)).set_ 1 (.int .i64 0)).set_ 2 (.int .i64 0))).three
    have HB := hide (((((Below.refl w.heap.size w).alloc (by first | omega | (simp; omega) | simp) (.cells #[.int .i64 0, .int .i64 0, .int .i64 0] 46)).setCell (p := ⟨(w.heap.size), 0, none⟩) (by first | omega | (simp; omega) | simp) (.int .i64 0)).setCell (p := ⟨(w.heap.size), 1, none⟩) (by first | omega | (simp; omega) | simp) (.int .i64 0)).setCell (p := ⟨(w.heap.size), 2, none⟩) (by first | omega | (simp; omega) | simp) (.int .i64 0))
    go_enter Tryz.func41, Tryz.ntmps41
    go_wp2_with fail
    refine bodyPost_ret (v := .agg #[.int .i64 0, .int .i64 0, .int .i64 0]) (by simp [results, Tryz.results41, go_sem]) rfl ?_
    rw [HV.out]
    exact ⟨rfl, (Below.refl _ _).alloc (Nat.le_refl _) _⟩
  ·
    have f1 : ¬ ((l.length : Int) < 5) := by omega
    have hfrom : ∀ W : World, (Instr.slice 9 (str l) (some (.int .i64 5)) none none).run Tryz.prog W = .ok (str (l.drop 5)) W := fun W => str_from_ (P := Tryz.prog) W 9 Tryz.underlying9 (l := l) (i := 5) (by omega)
    have hto : ∀ W : World, (Instr.slice 9 (str l) none (some (.int .i64 5)) none).run Tryz.prog W = .ok (str (l.take 5)) W := fun W => str_to_ (P := Tryz.prog) W 9 Tryz.underlying9 (l := l) (j := 5) (by omega)
    have HSP := hide (fun W : World => splitAt_any (l.drop 5) 44 W (by rw [List.length_drop]; omega))
    have hvl := spl_len 44 (l.drop 5)
    have HM := hide (mvW_five l)
    obtain ⟨v, hv⟩ : ∃ v, v = spl 44 (l.drop 5) := ⟨_, rfl⟩
    have hvp : ∀ x ∈ v, x.length ≤ 1048576 := fun x hx => by rw [hv] at hx; have := spl_part hx; rw [List.length_drop] at this; omega
    have hv1 : 0 < v.length ∧ v.length ≤ 1048577 := by rw [hv]; rw [List.length_drop] at hvl; omega
    rw [← hv] at HM HSP
    obtain ⟨q, hq⟩ : ∃ q, q = l.take 5 := ⟨_, rfl⟩
    obtain ⟨u, hu⟩ : ∃ u, u = l.drop 5 := ⟨_, rfl⟩
    rw [← hq] at HM hto
    rw [← hu] at HSP hfrom
    clear hv hvl hq hu h5
    have heL : ∀ (W : World) (t : TypeId), (binOp .eql t (str q) (.string ⟨#[108, 111, 111, 112, 58]⟩)).run Tryz.prog W = .ok (.bool (decide (q = loop5))) W := fun W t => str_eql (P := Tryz.prog) W t q loop5
    have heP : ∀ (W : World) (t : TypeId), (binOp .eql t (str q) (.string ⟨#[112, 97, 105, 114, 58]⟩)).run Tryz.prog W = .ok (.bool (decide (q = pair5))) W := fun W t => str_eql (P := Tryz.prog) W t q pair5
    have hgL : ∀ (W : World) (x y : Operand), (eqGuard .eql 9 x y (str q) (.string ⟨#[108, 111, 111, 112, 58]⟩)).run Tryz.prog W = .ok () W := fun W x y => guard_eql W x y q loop5
    have hgP : ∀ (W : World) (x y : Operand), (eqGuard .eql 9 x y (str q) (.string ⟨#[112, 97, 105, 114, 58]⟩)).run Tryz.prog W = .ok () W := fun W x y => guard_eql W x y q pair5
    go_enter Tryz.func41, Tryz.ntmps41
    go_wp2_with fail
    refine (HSP.out _).mono ?_
    rintro e w1 ⟨A1, c1, rfl, own1, hb1⟩
    have r_1 := (Bx.new_ w (w.heap.size) 46 #[.int .i64 0, .int .i64 0, .int .i64 0] (by simp)).below hb1
    obtain ⟨ra_1, rb_1, rc_1⟩ := (r_1).three
    have rf0_1 := (r_1).frozen 0
    have rf1_1 := (r_1).frozen 1
    have rf2_1 := (r_1).frozen 2
    have z_1 : (w.alloc (.cells #[.int .i64 0, .int .i64 0, .int .i64 0] 46)).heap.size ≤ w1.heap.size := hb1.size
    simp only [World.size_alloc] at z_1
    have B_1 := ((Below.refl w.heap.size w).alloc (by first | omega | (simp; omega) | simp) (.cells #[.int .i64 0, .int .i64 0, .int .i64 0] 46)).trans (hb1.mono (by first | omega | (simp; omega) | simp))
    obtain ⟨gv, offv, v0, hA2, hgv, hv0, hcv0⟩ := own1.rd.row (k := 0) hv1.1
    have hcv : w1.cell? ⟨gv, offv, none⟩ = some (str v0) := by
      have := hcv0 0 _ rfl
      simpa [strE] using this
    have hgD : v.getD 0 [] = v0 := by rw [List.getD_eq_getElem?_getD, hv0]; rfl
    have HN0 := hide (fun W : World => readDecimal_any v0 W (hvp v0 (List.mem_of_getElem? hv0)))
    have hnb := num_b v0
    rw [hgD] at HM
    obtain ⟨a, ha⟩ : ∃ a, a = (numV v0).1 := ⟨_, rfl⟩
    obtain ⟨one, hone⟩ : ∃ one, one = (numV v0).2 := ⟨_, rfl⟩
    rw [← ha, ← hone] at HN0 HM
    rw [← ha] at hnb
    subst hA2
    have OV := hide own1
    have HVP := hide hvp
    clear hcv0 hv0 hgD ha hone hvp own1
    go_wp2_with fail
    refine (HN0.out _).mono ?_
    rintro e w2 ⟨rfl, hb2⟩
    have r_2 := (r_1).below hb2
    obtain ⟨ra_2, rb_2, rc_2⟩ := (r_2).three
    have rf0_2 := (r_2).frozen 0
    have rf1_2 := (r_2).frozen 1
    have rf2_2 := (r_2).frozen 2
    have z_2 : w1.heap.size ≤ w2.heap.size := hb2.size
    have B_2 := (B_1).trans (hb2.mono (by first | omega | (simp; omega) | simp))
    have OV2 := hide (OV.out.below hb2)
    clear hcv
    by_cases q1 : q = loop5
    · have q2 : ¬ q = pair5 := fun h => by rw [q1] at h; exact absurd h (by decide)
      have HV : Hid (mvD l = if v.length = 1 ∧ one = true then (1, a, 0) else (0, 0, 0)) := hide (by
        unfold mvD
        rw [HM.out]
        by_cases c : v.length = 1 ∧ one = true
        · rw [if_pos ⟨q1, c⟩, if_pos c]; rfl
        · rw [if_neg (fun h => c h.2), if_neg (fun h => q2 h.1), if_neg c]; rfl)
      rw [decide_eq_true q1] at heL
      rw [decide_eq_false q2] at heP
      clear q1 q2 HM
      by_cases q3 : v.length = 1
      · have f2 : ((v.length : Int) == 1) = true := by rw [q3]; rfl
        rcases one with _ | _
        · have HV2 := HV.out
          rw [if_neg (by simp)] at HV2
          have HV3 := hide HV2
          clear q3 HV HV2
          have HR := hide (((((r_2).set_ 0 (.int .i64 0)).set_ 1 (.int .i64 0)).set_ 2 (.int .i64 0))).three
          go_wp2_with fail
          obtain ⟨ra_9, rb_9, rc_9⟩ := HR.out
          refine bodyPost_ret (v := .agg #[.int .i64 0, .int .i64 0, .int .i64 0]) (by simp [results, Tryz.results41, go_sem, ra_9, rb_9, rc_9]) rfl ?_
          rw [HV3.out]
          exact ⟨rfl, ((((B_2).setCell (p := ⟨(w.heap.size), 0, none⟩) (by first | omega | (simp; omega) | simp) (.int .i64 0)).setCell (p := ⟨(w.heap.size), 1, none⟩) (by first | omega | (simp; omega) | simp) (.int .i64 0)).setCell (p := ⟨(w.heap.size), 2, none⟩) (by first | omega | (simp; omega) | simp) (.int .i64 0))⟩
        ·
          have HV2 := HV.out
          rw [if_pos ⟨q3, rfl⟩] at HV2
          have HV3 := hide HV2
          clear q3 HV HV2
          have HR := hide (((((r_2).set_ 0 (.int .i64 1)).set_ 1 (.int .i64 a)).set_ 2 (.int .i64 0))).three
          go_wp2_with fail
          obtain ⟨ra_9, rb_9, rc_9⟩ := HR.out
          refine bodyPost_ret (v := .agg #[.int .i64 1, .int .i64 a, .int .i64 0]) (by simp [results, Tryz.results41, go_sem, ra_9, rb_9, rc_9]) rfl ?_
          rw [HV3.out]
          exact ⟨rfl, ((((B_2).setCell (p := ⟨(w.heap.size), 0, none⟩) (by first | omega | (simp; omega) | simp) (.int .i64 1)).setCell (p := ⟨(w.heap.size), 1, none⟩) (by first | omega | (simp; omega) | simp) (.int .i64 a)).setCell (p := ⟨(w.heap.size), 2, none⟩) (by first | omega | (simp; omega) | simp) (.int .i64 0))⟩
      ·
        have f2 : ((v.length : Int) == 1) = false := by rw [beq_eq_false_iff_ne]; omega
        have HV2 := HV.out
        rw [if_neg (fun h => q3 h.1)] at HV2
        have HV3 := hide HV2
        clear q3 HV HV2
        have HR := hide (((((r_2).set_ 0 (.int .i64 0)).set_ 1 (.int .i64 0)).set_ 2 (.int .i64 0))).three
        go_wp2_with fail
        obtain ⟨ra_9, rb_9, rc_9⟩ := HR.out
        refine bodyPost_ret (v := .agg #[.int .i64 0, .int .i64 0, .int .i64 0]) (by simp [results, Tryz.results41, go_sem, ra_9, rb_9, rc_9]) rfl ?_
        rw [HV3.out]
        exact ⟨rfl, ((((B_2).setCell (p := ⟨(w.heap.size), 0, none⟩) (by first | omega | (simp; omega) | simp) (.int .i64 0)).setCell (p := ⟨(w.heap.size), 1, none⟩) (by first | omega | (simp; omega) | simp) (.int .i64 0)).setCell (p := ⟨(w.heap.size), 2, none⟩) (by first | omega | (simp; omega) | simp) (.int .i64 0))⟩
    · rw [decide_eq_false q1] at heL
      by_cases q2 : q = pair5 ∧ v.length = 2 ∧ one = true
      ·
        obtain ⟨q2, q3, q4⟩ := q2
        rw [decide_eq_true q2] at heP
        have f2 : ((v.length : Int) == 2) = true := by rw [q3]; rfl
        obtain ⟨gu, offu, v1, hA3, hgu, hvx1, hcv1⟩ := OV2.out.rd.row (k := 1) (by omega)
        injection hA3 with hA3
        injection hA3 with hA3 hA3'
        subst hA3 hA3'
        have hcu : w2.cell? ⟨gv, offv + 1, none⟩ = some (str v1) := by
          have := hcv1 0 _ rfl
          simpa [strE] using this
        have hgD1 : v.getD 1 [] = v1 := by rw [List.getD_eq_getElem?_getD, hvx1]; rfl
        have HN1 := hide (fun W : World => readDecimal_any v1 W (HVP.out v1 (List.mem_of_getElem? hvx1)))
        have hnb1 := num_b v1
        rw [hgD1] at HM
        obtain ⟨b, hbb⟩ : ∃ b, b = (numV v1).1 := ⟨_, rfl⟩
        obtain ⟨fine, hfine⟩ : ∃ fine, fine = (numV v1).2 := ⟨_, rfl⟩
        rw [← hbb, ← hfine] at HN1 HM
        rw [← hbb] at hnb1
        have HV : Hid (mvD l = if fine = true then (2, a, b) else (0, 0, 0)) := hide (by
          unfold mvD
          rw [HM.out, if_neg (fun h => q1 h.1)]
          by_cases c : fine = true
          · rw [if_pos ⟨q2, q3, q4, c⟩, if_pos c]; rfl
          · rw [if_neg (fun h => c h.2.2.2), if_neg c]; rfl)
        have f3 : (1 : Int) < (v.length : Int) := by omega
        subst q4
        clear hcv1 hvx1 hgD1 hbb hfine HM q1 q2 q3
        go_wp2_with fail
        refine (HN1.out _).mono ?_
        rintro e w3 ⟨rfl, hb3⟩
        have r_3 := (r_2).below hb3
        obtain ⟨ra_3, rb_3, rc_3⟩ := (r_3).three
        have rf0_3 := (r_3).frozen 0
        have rf1_3 := (r_3).frozen 1
        have rf2_3 := (r_3).frozen 2
        have z_3 : w2.heap.size ≤ w3.heap.size := hb3.size
        have B_3 := (B_2).trans (hb3.mono (by first | omega | (simp; omega) | simp))
        rcases fine with _ | _
        · have HV2 := HV.out
          rw [if_neg (by simp)] at HV2
          have HV3 := hide HV2
          clear HV HV2
          have HR := hide (((((r_3).set_ 0 (.int .i64 0)).set_ 1 (.int .i64 0)).set_ 2 (.int .i64 0))).three
          go_wp2_with fail
          obtain ⟨ra_9, rb_9, rc_9⟩ := HR.out
          refine bodyPost_ret (v := .agg #[.int .i64 0, .int .i64 0, .int .i64 0]) (by simp [results, Tryz.results41, go_sem, ra_9, rb_9, rc_9]) rfl ?_
          rw [HV3.out]
          exact ⟨rfl, ((((B_3).setCell (p := ⟨(w.heap.size), 0, none⟩) (by first | omega | (simp; omega) | simp) (.int .i64 0)).setCell (p := ⟨(w.heap.size), 1, none⟩) (by first | omega | (simp; omega) | simp) (.int .i64 0)).setCell (p := ⟨(w.heap.size), 2, none⟩) (by first | omega | (simp; omega) | simp) (.int .i64 0))⟩
        ·
          have HV2 := HV.out
          rw [if_pos rfl] at HV2
          have HV3 := hide HV2
          clear HV HV2
          have HR := hide (((((r_3).set_ 0 (.int .i64 2)).set_ 1 (.int .i64 a)).set_ 2 (.int .i64 b))).three
          go_wp2_with fail
          obtain ⟨ra_9, rb_9, rc_9⟩ := HR.out
          refine bodyPost_ret (v := .agg #[.int .i64 2, .int .i64 a, .int .i64 b]) (by simp [results, Tryz.results41, go_sem, ra_9, rb_9, rc_9]) rfl ?_
          rw [HV3.out]
          exact ⟨rfl, ((((B_3).setCell (p := ⟨(w.heap.size), 0, none⟩) (by first | omega | (simp; omega) | simp) (.int .i64 2)).setCell (p := ⟨(w.heap.size), 1, none⟩) (by first | omega | (simp; omega) | simp) (.int .i64 a)).setCell (p := ⟨(w.heap.size), 2, none⟩) (by first | omega | (simp; omega) | simp) (.int .i64 b))⟩
      ·
        have HV : Hid (mvD l = (0, 0, 0)) := hide (by
          unfold mvD
          rw [HM.out, if_neg (fun h => q1 h.1), if_neg (fun h => q2 ⟨h.1, h.2.1, h.2.2.1⟩)]; rfl)
        have hcase : (decide (q = pair5) = false) ∨ (decide (q = pair5) = true ∧ ((v.length : Int) == 2) = false) ∨ (decide (q = pair5) = true ∧ ((v.length : Int) == 2) = true ∧ one = false) := by
          by_cases p1 : q = pair5
          · by_cases p2 : v.length = 2
            · refine .inr (.inr ⟨decide_eq_true p1, by rw [p2]; rfl, ?_⟩)
              cases one
              · rfl
              · exact absurd ⟨p1, p2, rfl⟩ q2
            · exact .inr (.inl ⟨decide_eq_true p1, by rw [beq_eq_false_iff_ne]; omega⟩)
          · exact .inl (decide_eq_false p1)
        clear q1 q2 HM
        have HR := hide (((((r_2).set_ 0 (.int .i64 0)).set_ 1 (.int .i64 0)).set_ 2 (.int .i64 0))).three
        rcases hcase with c1 | ⟨c1, c2⟩ | ⟨c1, c2, c3⟩
        · rw [c1] at heP
          clear c1
          go_wp2_with fail
          obtain ⟨ra_9, rb_9, rc_9⟩ := HR.out
          refine bodyPost_ret (v := .agg #[.int .i64 0, .int .i64 0, .int .i64 0]) (by simp [results, Tryz.results41, go_sem, ra_9, rb_9, rc_9]) rfl ?_
          rw [HV.out]
          exact ⟨rfl, ((((B_2).setCell (p := ⟨(w.heap.size), 0, none⟩) (by first | omega | (simp; omega) | simp) (.int .i64 0)).setCell (p := ⟨(w.heap.size), 1, none⟩) (by first | omega | (simp; omega) | simp) (.int .i64 0)).setCell (p := ⟨(w.heap.size), 2, none⟩) (by first | omega | (simp; omega) | simp) (.int .i64 0))⟩
        · rw [c1] at heP
          clear c1
          go_wp2_with fail
          obtain ⟨ra_9, rb_9, rc_9⟩ := HR.out
          refine bodyPost_ret (v := .agg #[.int .i64 0, .int .i64 0, .int .i64 0]) (by simp [results, Tryz.results41, go_sem, ra_9, rb_9, rc_9]) rfl ?_
          rw [HV.out]
          exact ⟨rfl, ((((B_2).setCell (p := ⟨(w.heap.size), 0, none⟩) (by first | omega | (simp; omega) | simp) (.int .i64 0)).setCell (p := ⟨(w.heap.size), 1, none⟩) (by first | omega | (simp; omega) | simp) (.int .i64 0)).setCell (p := ⟨(w.heap.size), 2, none⟩) (by first | omega | (simp; omega) | simp) (.int .i64 0))⟩
        · rw [c1] at heP
          subst c3
          clear c1
          go_wp2_with fail
          obtain ⟨ra_9, rb_9, rc_9⟩ := HR.out
          refine bodyPost_ret (v := .agg #[.int .i64 0, .int .i64 0, .int .i64 0]) (by simp [results, Tryz.results41, go_sem, ra_9, rb_9, rc_9]) rfl ?_
          rw [HV.out]
          exact ⟨rfl, ((((B_2).setCell (p := ⟨(w.heap.size), 0, none⟩) (by first | omega | (simp; omega) | simp) (.int .i64 0)).setCell (p := ⟨(w.heap.size), 1, none⟩) (by first | omega | (simp; omega) | simp) (.int .i64 0)).setCell (p := ⟨(w.heap.size), 2, none⟩) (by first | omega | (simp; omega) | simp) (.int .i64 0))⟩
end Go.Proofs.YtocellbhpjiioaaGreat
