/-
  Contract: the tracing of one curve of a panel, of the reference. Conditions: a valid panel's sides and breaks.
-/
import Derived.Test.YtnjojnnapdhijaaTr7
import Derived.Laws.StructEq
namespace Go.Proofs.Ytnjojnnapdhijaa
open Go.RowKit
set_option linter.unusedVariables false

theorem run_neq_wk {x y u v x' y' u' v' : Int} (h : ¬ (x = x' ∧ y = y' ∧ u = u' ∧ v = v')) (W : World) : (binOp .neq 112 (.agg #[.int .i64 x, .int .i64 y, .int .i64 u, .int .i64 v]) (.agg #[.int .i64 x', .int .i64 y', .int .i64 u', .int .i64 v'])).run Try.prog W = .ok (.bool true) W := by
  rw [run_neq_struct]
  go_simp
  exact fun h1 h2 h3 h4 => h ⟨h1, h2, h3, h4⟩
theorem wk_ne {a b : Wk} (h : a ≠ b) : ¬ (a.x = b.x ∧ a.y = b.y ∧ a.dx = b.dx ∧ a.dy = b.dy) := fun ⟨h1, h2, h3, h4⟩ => h (by cases a; cases b; simp_all)
/-- the segments of walkers -/
def segsL (ht : Int) (c : List Wk) : List Int := c.map fun x => ((segN ht x : Nat) : Int)
def ptsL (c : List Wk) : List (Int × Int) := c.map fun x => (x.x, x.y)
theorem segsL_len (ht : Int) (c : List Wk) : (segsL ht c).length = c.length := by simp [segsL]
theorem ptsL_len (c : List Wk) : (ptsL c).length = c.length := by simp [ptsL]
theorem segsL_snoc {ht : Int} {c : List Wk} {i : Nat} {x : Wk} (h : c[i]? = some x) : segsL ht (c.take (i + 1)) = segsL ht (c.take i) ++ [((segN ht x : Nat) : Int)] := by
  unfold segsL
  rw [List.take_add_one, h, List.map_append]
  rfl
theorem ptsL_snoc {c : List Wk} {i : Nat} {x : Wk} (h : c[i]? = some x) : ptsL (c.take (i + 1)) = ptsL (c.take i) ++ [(x.x, x.y)] := by
  unfold ptsL
  rw [List.take_add_one, h, List.map_append]
  rfl
/-- What the tracing of one curve hands back: points, and the segments. -/
def RetT1 (ht : Int) (n : Nat) (c : List Wk) (w : World) (e : Ending) (w' : World) : Prop :=
  ∃ A cc B d, e = .returned (.tuple #[.slice A n cc, .slice B (segsL ht c).length d]) ∧ OwnI w' w.heap.size B d (segsL ht c) ∧ Below w.heap.size w w'

set_option maxRecDepth 20000 in
set_option maxHeartbeats 8000000 in
theorem l04Trace_any (b0 : Nat) (wd ht : Int) (A : Option Addr) (c : Nat) (xs : List Int) (a : Wk) (w : World) (hp : PA w b0 wd ht A c xs) (hs : Sz wd ht) (hl : (xs.length : Int) = innerN wd ht) (ha : OkW wd ht a) :
    Calls Try.prog 163 #[.pointer (some ⟨b0, 0, none⟩), .agg #[.int .i64 a.x, .int .i64 a.y, .int .i64 a.dx, .int .i64 a.dy]] w (RetT1 ht (perW wd ht xs a) (orbW wd ht xs a) w) := by
  have HS := hide hs
  have HL := hide hl
  have hper := per_spec (xs := xs) hs ha
  have HOK := hide (okW_it (xs := xs) ha)
  have HAT := hide (fun i hi => orbW_at (wd := wd) (ht := ht) (xs := xs) a (i := i) hi)
  have HOL := hide (orbW_len (wd := wd) (ht := ht) (xs := xs) a)
  have hn2 := (nSeg_int hs).2.1
  obtain ⟨P, hP⟩ : ∃ P, P = perW wd ht xs a := ⟨_, rfl⟩
  rw [← hP] at hper HAT HOL ⊢
  obtain ⟨orb, ho⟩ : ∃ o, o = orbW wd ht xs a := ⟨_, rfl⟩
  rw [← ho] at HAT HOL ⊢
  obtain ⟨p1, p2, p3, p4⟩ := hper
  have HP := hide p2
  have HNE := hide p4
  have hP2 : P ≤ 256 := by omega
  clear hP ho hs hl p2 p3 p4 hn2
  obtain ⟨wka_x1, wkb_x1, wkc_x1, wkd_x1⟩ := (Bx.new_ w (w.heap.size) 112 #[.int .i64 a.x, .int .i64 a.y, .int .i64 a.dx, .int .i64 a.dy] (by simp)).four
  have hpt := Own.new_ (E := ptE) (w.alloc (.cells #[.int .i64 a.x, .int .i64 a.y, .int .i64 a.dx, .int .i64 a.dy] 112)) (base := w.heap.size) (w.heap.size + 1) [] #[] (by simp) rfl (by simp) (by simp)
  have hsg := OwnI.empty_ ((w.alloc (.cells #[.int .i64 a.x, .int .i64 a.y, .int .i64 a.dx, .int .i64 a.dy] 112)).alloc (.cells #[] 110)) (base := w.heap.size) (w.heap.size + 1 + 1) (by simp) (by first | omega | (simp; omega) | simp)
  obtain ⟨wka_x2, wkb_x2, wkc_x2, wkd_x2⟩ := (((Bx.new_ w (w.heap.size) 112 #[.int .i64 a.x, .int .i64 a.y, .int .i64 a.dx, .int .i64 a.dy] (by simp)).alloc (.cells #[] 110)).alloc (.cells #[] 2)).four
  have pt0 := (((hpt).alloc (.cells #[] 2)).alloc (.cells #[.int .i64 a.x, .int .i64 a.y, .int .i64 a.dx, .int .i64 a.dy] 112))
  have sg0 := ((hsg).alloc (.cells #[.int .i64 a.x, .int .i64 a.y, .int .i64 a.dx, .int .i64 a.dy] 112))
  have wk0 := ((((Bx.new_ w (w.heap.size) 112 #[.int .i64 a.x, .int .i64 a.y, .int .i64 a.dx, .int .i64 a.dy] (by simp)).alloc (.cells #[] 110)).alloc (.cells #[] 2)).alloc (.cells #[.int .i64 a.x, .int .i64 a.y, .int .i64 a.dx, .int .i64 a.dy] 112))
  have x0 := (Bx.new_ (((w.alloc (.cells #[.int .i64 a.x, .int .i64 a.y, .int .i64 a.dx, .int .i64 a.dy] 112)).alloc (.cells #[] 110)).alloc (.cells #[] 2)) (w.heap.size + 1 + 1 + 1) 112 #[.int .i64 a.x, .int .i64 a.y, .int .i64 a.dx, .int .i64 a.dy] (by simp))
  have hB0 := (((((Below.refl w.heap.size w).alloc (by first | omega | (simp; omega) | simp) (.cells #[.int .i64 a.x, .int .i64 a.y, .int .i64 a.dx, .int .i64 a.dy] 112)).alloc (by first | omega | (simp; omega) | simp) (.cells #[] 110)).alloc (by first | omega | (simp; omega) | simp) (.cells #[] 2)).alloc (by first | omega | (simp; omega) | simp) (.cells #[.int .i64 a.x, .int .i64 a.y, .int .i64 a.dx, .int .i64 a.dy] 112))
  have hz0 : w.heap.size ≤ (((((w.alloc (.cells #[.int .i64 a.x, .int .i64 a.y, .int .i64 a.dx, .int .i64 a.dy] 112)).alloc (.cells #[] 110)).alloc (.cells #[] 2)).alloc (.cells #[.int .i64 a.x, .int .i64 a.y, .int .i64 a.dx, .int .i64 a.dy] 112))).heap.size := by simp; omega
  clear hpt hsg
  go_enter Try.func163, Try.ntmps163
  go_wp2_with fail
  go_loopw [8, 6, 7] (fun xv pv sv wr => ∃ (i bw : Nat) (A1 : Option Addr) (c1 : Nat) (zs : List (Int × Int)) (A2 : Option Addr) (c2 : Nat) (ss : List Int), i ≤ P ∧ xv = .pointer (some ⟨bw, 0, none⟩) ∧ pv = .slice A1 zs.length c1 ∧ sv = .slice A2 ss.length c2 ∧ Hid (zs = ptsL (orb.take i)) ∧ Hid (zs.length = i) ∧ Hid (ss = segsL ht (orb.take i)) ∧ Hid (ss.length = i) ∧ w.heap.size ≤ bw ∧
      Bx wr bw 112 #[.int .i64 (itW wd ht xs i a).x, .int .i64 (itW wd ht xs i a).y, .int .i64 (itW wd ht xs i a).dx, .int .i64 (itW wd ht xs i a).dy] ∧ Bx wr w.heap.size 112 #[.int .i64 a.x, .int .i64 a.y, .int .i64 a.dx, .int .i64 a.dy] ∧ Own ptE wr w.heap.size A1 c1 zs ∧ OwnI wr w.heap.size A2 c2 ss ∧ Below w.heap.size w wr) (fun _ pv _ _ => P - lenOf pv)
  case atStart => exact ⟨0, _, _, 0, [], _, 0, [], Nat.zero_le _, rfl, rfl, rfl, hide (by simp [ptsL]), hide rfl, hide (by simp [segsL]), hide rfl, by omega, x0, wk0, pt0, sg0, hB0⟩
  case round =>
    clear pt0 sg0 wk0 x0 hB0 hz0
    obtain ⟨i, bw, A1, c1, zs, A2, c2, ss, hi, rfl, rfl, rfl, hzs, hzl, hss, hsl, hbw, hx, hwk, pt, sg, hB⟩ := hrel
    have hz := hB.size
    obtain ⟨x, hxx⟩ : ∃ x, x = itW wd ht xs i a := ⟨_, rfl⟩
    rw [← hxx] at hx
    have hok : OkW wd ht x := by rw [hxx]; exact HOK.out i
    have HX := hide hxx
    have hsn := segN_int HS.out hok
    have HPA := hide (hp.below hB)
    have hzlen : zs.length ≤ 256 := by rw [hzl.out]; omega
    have hslen : ss.length ≤ 256 := by rw [hsl.out]; omega
    obtain ⟨xa_0, xb_0, xc_0, xd_0⟩ := hx.four
    obtain ⟨wa_0, wb_0, wc_0, wd_0⟩ := hwk.four
    clear hxx
    by_cases hlt : i < P
    · have HSEG := hide (fun (W : World) (hb : Below w.heap.size w W) => (by have h := l03Segment_any b0 wd ht A c xs x W (hp.below hb) HS.out hok; rw [← hsn.1] at h; exact h))
      clear hsn
      have hcase : (((zs.length : Int) == 0) = true) ∨ ((((zs.length : Int) == 0) = false) ∧ ¬ (x.x = a.x ∧ x.y = a.y ∧ x.dx = a.dx ∧ x.dy = a.dy)) := by
        by_cases h0 : i = 0
        · exact .inl (by rw [hzl.out, h0]; rfl)
        · refine .inr ⟨eqf (by rw [hzl.out]; omega), wk_ne ?_⟩
          rw [HX.out]
          exact HNE.out i (by omega) hlt
      rcases hcase with e0 | ⟨e0, hne⟩
      case' inr => have hneq := fun W => run_neq_wk hne W
      all_goals
        go_wp2_with (at_builtin; refine wpList_append_row ptE rfl (.tmp 23) (.tmp 26) rfl w.heap.size A1 c1 zs rfl (pt.alloc _) (some ⟨wr.heap.size, 0, none⟩) 1 [(x.x, x.y)] rfl (RG.fresh (E := ptE) _ _ rfl _ #[.int .i64 x.x, .int .i64 x.y] rfl _) (by simp; omega) (by simp [ptE]; omega) (by simp; omega) (zs ++ [(x.x, x.y)]) rfl ?_; intro A3 c3 w3 pt3 hg3 hb3; have hx3 := (hx.alloc (.cells #[.int .i64 x.x, .int .i64 x.y] 110)).grownG (pt.alloc _) (by decide) hg3; obtain ⟨xa_3, xb_3, xc_3, xd_3⟩ := hx3.four)
        have hwk3 := (hwk.alloc (.cells #[.int .i64 x.x, .int .i64 x.y] 110)).grownG (pt.alloc _) (by decide) hg3
        have sg3 := (sg.alloc (.cells #[.int .i64 x.x, .int .i64 x.y] 110)).grownOther hg3 (pt.alloc _) (by decide)
        have hB3 := (hB.alloc (by omega) (.cells #[.int .i64 x.x, .int .i64 x.y] 110)).grown hg3 (by simp; omega) (fun q hq => (pt.ge hq).1)
        have hz3 := hg3.size
        simp only [World.size_alloc] at hz3
        clear hx hwk sg hb3 xa_0 xb_0 xc_0 xd_0 wa_0 wb_0 wc_0 wd_0 e0
        refine ((HSEG.out _ hB3)).mono ?_
        rintro e w4 ⟨rfl, hb4⟩
        have pt_4 := (pt3).below hb4
        have sg_4 := (sg3).below hb4
        have hx_4 := (hx3).below hb4
        have hwk_4 := (hwk3).below hb4
        have z_4 : w3.heap.size ≤ w4.heap.size := hb4.size
        have B_4 := (Below.refl w3.heap.size w3).trans (hb4.mono (by first | omega | (simp; omega) | simp))
        have hB4 := hB3.trans (((B_4)).mono (by omega))
        obtain ⟨xa_4, xb_4, xc_4, xd_4⟩ := hx_4.four
        clear xa_3 xb_3 xc_3 xd_3
        go_wp2_with (at_builtin; refine wpList_append_ints rfl (.tmp 28) (.tmp 32) rfl w.heap.size A2 c2 ss rfl (sg_4.alloc _) (some ⟨w4.heap.size, 0, none⟩) 1 [((segN ht x : Nat) : Int)] rfl (OwnI.new (base := 0) w4 [((segN ht x : Nat) : Int)] #[.int .i64 ((segN ht x : Nat) : Int)] rfl (Nat.zero_le _) (by simp [maxLen])).rd (by simp; omega) (by simp; omega) (ss ++ [((segN ht x : Nat) : Int)]) rfl ?_; intro A5 c5 w5 sg5 hg5 hb5; have hx5 := (hx_4.alloc (.cells #[.int .i64 ((segN ht x : Nat) : Int)] 2)).grownOwn (sg_4.alloc _) (by decide) hg5; obtain ⟨xa_5, xb_5, xc_5, xd_5⟩ := hx5.four; have hx6 := Bx.new w5 112 #[.int .i64 x.x, .int .i64 x.y, .int .i64 x.dx, .int .i64 x.dy]; obtain ⟨xa_6, xb_6, xc_6, xd_6⟩ := hx6.four)
        have hwk5 := (hwk_4.alloc (.cells #[.int .i64 ((segN ht x : Nat) : Int)] 2)).grownOwn (sg_4.alloc _) (by decide) hg5
        have pt5 := (pt_4.alloc (.cells #[.int .i64 ((segN ht x : Nat) : Int)] 2)).grownInts hg5 (sg_4.alloc _) (by decide)
        have hB5 := (hB4.alloc (by omega) (.cells #[.int .i64 ((segN ht x : Nat) : Int)] 2)).grown hg5 (by simp; omega) (fun q hq => (sg_4.ge hq).1)
        have hz5 := hg5.size
        simp only [World.size_alloc] at hz5
        have hPA := hp.below (hB5.trans ((((Below.refl w5.heap.size w5).alloc (by first | omega | (simp; omega) | simp) (.cells #[.int .i64 x.x, .int .i64 x.y, .int .i64 x.dx, .int .i64 x.dy] 112))).mono (by omega)))
        refine (l03Step_any b0 wd ht A c xs x _ hPA HS.out HL.out hok).mono ?_
        rintro e w9 ⟨rfl, hb9⟩
        have x_9 := (Bx.new_ w5 (w5.heap.size) 112 #[.int .i64 x.x, .int .i64 x.y, .int .i64 x.dx, .int .i64 x.dy] (by simp)).below hb9
        obtain ⟨xa_9, xb_9, xc_9, xd_9⟩ := (x_9).four
        have xf0_9 := (x_9).frozen 0
        have xf1_9 := (x_9).frozen 1
        have xf2_9 := (x_9).frozen 2
        have xf3_9 := (x_9).frozen 3
        have z_9 : (w5.alloc (.cells #[.int .i64 x.x, .int .i64 x.y, .int .i64 x.dx, .int .i64 x.dy] 112)).heap.size ≤ w9.heap.size := hb9.size
        simp only [World.size_alloc] at z_9
        have B_9 := ((Below.refl w5.heap.size w5).alloc (by first | omega | (simp; omega) | simp) (.cells #[.int .i64 x.x, .int .i64 x.y, .int .i64 x.dx, .int .i64 x.dy] 112)).trans (hb9.mono (by first | omega | (simp; omega) | simp))
        go_wp2_with fail
        have HNX : Hid (itW wd ht xs (i + 1) a = stepW wd ht xs x) := hide (by rw [HX.out]; rfl)
        have HZ1 : Hid (zs ++ [(x.x, x.y)] = ptsL (orb.take (i + 1))) := hide (by rw [ptsL_snoc (HAT.out i hlt), ← hzs.out, ← HX.out])
        have HZ2 : Hid (ss ++ [((segN ht x : Nat) : Int)] = segsL ht (orb.take (i + 1))) := hide (by rw [segsL_snoc (HAT.out i hlt), ← hss.out, ← HX.out])
        go_roundw
        case rel => exact ⟨i + 1, _, A3, c3, zs ++ [(x.x, x.y)], A5, c5, ss ++ [((segN ht x : Nat) : Int)], by omega, rfl, by simp, by simp, HZ1, hide (by rw [List.length_append, hzl.out]; rfl), HZ2, hide (by rw [List.length_append, hsl.out]; rfl), by omega, by rw [HNX.out]; exact (((((x_9).set_ 0 (.int .i64 x.nx)).set_ 1 (.int .i64 x.ny)).set_ 2 (.int .i64 (stepW wd ht xs x).dx)).set_ 3 (.int .i64 (stepW wd ht xs x).dy)), hwk5.below (((((B_9).setCell (p := ⟨(w5.heap.size), 0, none⟩) (by first | omega | (simp; omega) | simp) (.int .i64 x.nx)).setCell (p := ⟨(w5.heap.size), 1, none⟩) (by first | omega | (simp; omega) | simp) (.int .i64 x.ny)).setCell (p := ⟨(w5.heap.size), 2, none⟩) (by first | omega | (simp; omega) | simp) (.int .i64 (stepW wd ht xs x).dx)).setCell (p := ⟨(w5.heap.size), 3, none⟩) (by first | omega | (simp; omega) | simp) (.int .i64 (stepW wd ht xs x).dy)), pt5.below (((((B_9).setCell (p := ⟨(w5.heap.size), 0, none⟩) (by first | omega | (simp; omega) | simp) (.int .i64 x.nx)).setCell (p := ⟨(w5.heap.size), 1, none⟩) (by first | omega | (simp; omega) | simp) (.int .i64 x.ny)).setCell (p := ⟨(w5.heap.size), 2, none⟩) (by first | omega | (simp; omega) | simp) (.int .i64 (stepW wd ht xs x).dx)).setCell (p := ⟨(w5.heap.size), 3, none⟩) (by first | omega | (simp; omega) | simp) (.int .i64 (stepW wd ht xs x).dy)), sg5.below (((((B_9).setCell (p := ⟨(w5.heap.size), 0, none⟩) (by first | omega | (simp; omega) | simp) (.int .i64 x.nx)).setCell (p := ⟨(w5.heap.size), 1, none⟩) (by first | omega | (simp; omega) | simp) (.int .i64 x.ny)).setCell (p := ⟨(w5.heap.size), 2, none⟩) (by first | omega | (simp; omega) | simp) (.int .i64 (stepW wd ht xs x).dx)).setCell (p := ⟨(w5.heap.size), 3, none⟩) (by first | omega | (simp; omega) | simp) (.int .i64 (stepW wd ht xs x).dy)), hB5.trans (((((((B_9).setCell (p := ⟨(w5.heap.size), 0, none⟩) (by first | omega | (simp; omega) | simp) (.int .i64 x.nx)).setCell (p := ⟨(w5.heap.size), 1, none⟩) (by first | omega | (simp; omega) | simp) (.int .i64 x.ny)).setCell (p := ⟨(w5.heap.size), 2, none⟩) (by first | omega | (simp; omega) | simp) (.int .i64 (stepW wd ht xs x).dx)).setCell (p := ⟨(w5.heap.size), 3, none⟩) (by first | omega | (simp; omega) | simp) (.int .i64 (stepW wd ht xs x).dy))).mono (by omega))⟩
        case measure => have := hzl.out; simp [lenOf_slice]; omega
    · have hiP : P = i := by omega
      have e0 : ((zs.length : Int) == 0) = false := eqf (by rw [hzl.out]; omega)
      have hxa : x = a := by rw [HX.out, ← hiP, HP.out]
      have HZ : Hid (zs.length = P) := hide (by rw [hzl.out, hiP])
      have HSS : Hid (ss = segsL ht orb) := hide (by rw [hss.out, ← hiP, List.take_of_length_le (by rw [HOL.out]; exact Nat.le_refl _)])
      clear hsn hlt hiP HX
      subst hxa
      go_wp2_with fail
      go_ret2
      exact ⟨A1, c1, A2, c2, by rw [HSS.out, HZ.out]; rfl, by rw [HSS.out] at sg; exact sg, hB⟩
end Go.Proofs.Ytnjojnnapdhijaa
