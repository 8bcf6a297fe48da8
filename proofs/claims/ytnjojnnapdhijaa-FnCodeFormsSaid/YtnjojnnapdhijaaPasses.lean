/-
  Contracts: the passes of a curve, the code of a panel. Conditions: a valid panel's sides and breaks.
-/
import Derived.Test.YtnjojnnapdhijaaTr10
import Derived.Test.YtnjojnnapdhijaaRet
import Derived.Deep.DeepCutAuto
import Derived.Deep.RegionHeld3
namespace Go.Proofs.Ytnjojnnapdhijaa
open Go.RowKit
set_option linter.unusedVariables false

section
variable {w w0 : World} {b : Nat} {o0 o1 o2 o3 : Nat} {u0 u1 u2 u3 : Value}
theorem bx_far4 {b' : Nat} {t : TypeId} {cs : Array Value} (h : Bx w b' t cs) (hne : b' ≠ b) : Bx ((((w.setCell ⟨b, o0, none⟩ u0).setCell ⟨b, o1, none⟩ u1).setCell ⟨b, o2, none⟩ u2).setCell ⟨b, o3, none⟩ u3) b' t cs :=
  (((h.far (p := ⟨b, o0, none⟩) hne u0).far (p := ⟨b, o1, none⟩) hne u1).far (p := ⟨b, o2, none⟩) hne u2).far (p := ⟨b, o3, none⟩) hne u3
theorem bx_put4 {t : TypeId} {v0 v1 v2 v3 : Value} (h : Bx w b t #[v0, v1, v2, v3]) : Bx ((((w.setCell ⟨b, 0, none⟩ u0).setCell ⟨b, 1, none⟩ u1).setCell ⟨b, 2, none⟩ u2).setCell ⟨b, 3, none⟩ u3) b t #[u0, u1, u2, u3] :=
  (((h.set_ 0 u0).set_ 1 u1).set_ 2 u2).set_ 3 u3
theorem own_far4 {α : Type} {E : El α} {base : Nat} {A : Option Addr} {c : Nat} {xs : List α} (h : Own E w base A c xs) (hne : blk A ≠ some b) : Own E ((((w.setCell ⟨b, o0, none⟩ u0).setCell ⟨b, o1, none⟩ u1).setCell ⟨b, o2, none⟩ u2).setCell ⟨b, o3, none⟩ u3) base A c xs :=
  (((h.setFar (p := ⟨b, o0, none⟩) hne u0).setFar (p := ⟨b, o1, none⟩) hne u1).setFar (p := ⟨b, o2, none⟩) hne u2).setFar (p := ⟨b, o3, none⟩) hne u3
theorem below_put4_ {B : Nat} (h : Below B w0 w) (hb : B ≤ b) : Below B w0 ((((w.setCell ⟨b, o0, none⟩ u0).setCell ⟨b, o1, none⟩ u1).setCell ⟨b, o2, none⟩ u2).setCell ⟨b, o3, none⟩ u3) :=
  (((h.setCell (p := ⟨b, o0, none⟩) hb u0).setCell (p := ⟨b, o1, none⟩) hb u1).setCell (p := ⟨b, o2, none⟩) hb u2).setCell (p := ⟨b, o3, none⟩) hb u3
end
theorem ret_since {P : Program} {f : FuncId} {args : Array Value} {B0 : Nat} {W0 W : World} {v : Value} (hc : Calls P f args W (RetV W v)) (h0 : Below B0 W0 W) (hB : B0 ≤ W.heap.size) : Calls P f args W fun e w' => e = .returned v ∧ Below B0 W0 w' :=
  hc.mono fun _ _ h => ⟨h.1, h0.trans (h.2.mono hB)⟩
/-- passes: the crossing's index, and whether the walker goes over -/
def psE : El (Int × Bool) where
  cells p := [.int .i64 p.1, .bool p.2]
  size := 2
  ty := 81
  sl := 78
  bytes := 16
  z := .agg #[.int .i64 0, .bool false]
  len _ := rfl
  pos := by omega
  und := Try.underlying78
  inf := by kernel_rfl
  hz := rfl
  one x u hu := by simp at hu; rcases hu with rfl | rfl <;> rfl
def psOf (wd ht : Int) (xs : List Int) (a : Wk) : List (Int × Bool) := if crossB wd ht xs a.nx a.ny = true then [((idxW wd xs a : Int), overB a)] else []
def psL (wd ht : Int) (xs : List Int) (c : List Wk) : List (Int × Bool) := c.flatMap (psOf wd ht xs)
section
variable {wd ht : Int} {xs : List Int}
theorem psL_next {c : List Wk} {m : Nat} {x : Wk} (h : c[m]? = some x) : psL wd ht xs (c.take (m + 1)) = psL wd ht xs (c.take m) ++ psOf wd ht xs x := by
  unfold psL
  rw [List.take_add_one, h, List.flatMap_append]
  simp
theorem psOf_yes {x : Wk} (h : crossB wd ht xs x.nx x.ny = true) : psOf wd ht xs x = [((idxW wd xs x : Int), overB x)] := if_pos h
theorem psOf_no {x : Wk} (h : crossB wd ht xs x.nx x.ny = false) : psOf wd ht xs x = [] := if_neg (by rw [h]; simp)
theorem psL_len (c : List Wk) : (psL wd ht xs c).length ≤ c.length := by
  unfold psL
  induction c with
  | nil => simp
  | cons x t ih =>
    rw [List.flatMap_cons, List.length_append, List.length_cons]
    have : (psOf wd ht xs x).length ≤ 1 := by unfold psOf; split <;> simp
    omega
end
/-- A row of passes of its own. -/
def RetPs (w : World) (ps : List (Int × Bool)) (e : Ending) (w' : World) : Prop := ∃ A c, e = .returned (.slice A ps.length c) ∧ Own psE w' w.heap.size A c ps ∧ Below w.heap.size w w'

set_option maxRecDepth 20000 in
set_option maxHeartbeats 8000000 in
theorem l13Passes_any (b0 : Nat) (wd ht : Int) (A : Option Addr) (c : Nat) (xs : List Int) (a : Wk) (w : World) (hp : PA w b0 wd ht A c xs) (hs : Sz wd ht) (hl : (xs.length : Int) = innerN wd ht) (hn : xs.length ≤ 1048576) (hwk : OkW wd ht a) :
    Calls Try.prog 156 #[.pointer (some ⟨b0, 0, none⟩), .agg #[.int .i64 a.x, .int .i64 a.y, .int .i64 a.dx, .int .i64 a.dy]] w (RetPs w (psL wd ht xs (orbW wd ht xs a))) := by
  have HL := hide hl
  have HS := hide hs
  have hper := per_spec (xs := xs) hs hwk
  have HOK := hide (okW_it (xs := xs) hwk)
  have HAT := hide (fun i hi => orbW_at (wd := wd) (ht := ht) (xs := xs) a (i := i) hi)
  have HOL := hide (orbW_len (wd := wd) (ht := ht) (xs := xs) a)
  have hn2 := (nSeg_int hs).2.1
  have HPL := hide (fun m => psL_len (wd := wd) (ht := ht) (xs := xs) ((orbW wd ht xs a).take m))
  obtain ⟨P, hP⟩ : ∃ P, P = perW wd ht xs a := ⟨_, rfl⟩
  rw [← hP] at hper HAT HOL
  obtain ⟨orb, ho⟩ : ∃ o, o = orbW wd ht xs a := ⟨_, rfl⟩
  rw [← ho] at HAT HOL HPL ⊢
  obtain ⟨p1, p2, p3, p4⟩ := hper
  have HP := hide p2
  have HNE := hide p4
  have hP2 : P ≤ 256 := by omega
  clear hP ho p2 p3 p4 hwk hn2 hl hs
  have own0 := Own.new_ (E := psE) (w.alloc (.cells #[.int .i64 a.x, .int .i64 a.y, .int .i64 a.dx, .int .i64 a.dy] 112)) (base := w.heap.size + 1) (w.heap.size + 1) [] #[] (by simp) rfl (by simp) (by simp)
  obtain ⟨wka_x1, wkb_x1, wkc_x1, wkd_x1⟩ := ((Bx.new_ w (w.heap.size) 112 #[.int .i64 a.x, .int .i64 a.y, .int .i64 a.dx, .int .i64 a.dy] (by simp)).alloc (.cells #[] 81)).four
  have ps4 := ((own0).alloc (.cells #[.int .i64 a.x, .int .i64 a.y, .int .i64 a.dx, .int .i64 a.dy] 112))
  have wk4 := (((Bx.new_ w (w.heap.size) 112 #[.int .i64 a.x, .int .i64 a.y, .int .i64 a.dx, .int .i64 a.dy] (by simp)).alloc (.cells #[] 81)).alloc (.cells #[.int .i64 a.x, .int .i64 a.y, .int .i64 a.dx, .int .i64 a.dy] 112))
  have x4 := (Bx.new_ ((w.alloc (.cells #[.int .i64 a.x, .int .i64 a.y, .int .i64 a.dx, .int .i64 a.dy] 112)).alloc (.cells #[] 81)) (w.heap.size + 1 + 1) 112 #[.int .i64 a.x, .int .i64 a.y, .int .i64 a.dx, .int .i64 a.dy] (by simp))
  have hB4 := ((((Below.refl w.heap.size w).alloc (by first | omega | (simp; omega) | simp) (.cells #[.int .i64 a.x, .int .i64 a.y, .int .i64 a.dx, .int .i64 a.dy] 112)).alloc (by first | omega | (simp; omega) | simp) (.cells #[] 81)).alloc (by first | omega | (simp; omega) | simp) (.cells #[.int .i64 a.x, .int .i64 a.y, .int .i64 a.dx, .int .i64 a.dy] 112))
  have hz4 : w.heap.size + 3 ≤ ((((w.alloc (.cells #[.int .i64 a.x, .int .i64 a.y, .int .i64 a.dx, .int .i64 a.dy] 112)).alloc (.cells #[] 81)).alloc (.cells #[.int .i64 a.x, .int .i64 a.y, .int .i64 a.dx, .int .i64 a.dy] 112))).heap.size := by simp
  have obx : w.heap.size + 1 + 1 = w.heap.size + 2 := rfl
  clear own0
  go_enter Try.func156, Try.ntmps156
  go_wp2_with fail
  go_loopg [5, 7] P (fun g s5 s7 wr => ∃ (m : Nat) (A1 : Option Addr) (c1 : Nat) (zs : List (Int × Bool)), m + g = P ∧ s7 = .int .i64 (m : Int) ∧ s5 = .slice A1 zs.length c1 ∧ zs.length ≤ m ∧ Hid (zs = psL wd ht xs (orb.take m)) ∧ Bx wr w.heap.size 112 #[.int .i64 a.x, .int .i64 a.y, .int .i64 a.dx, .int .i64 a.dy] ∧ Bx wr (w.heap.size + 1 + 1) 112 #[.int .i64 (itW wd ht xs m a).x, .int .i64 (itW wd ht xs m a).y, .int .i64 (itW wd ht xs m a).dx, .int .i64 (itW wd ht xs m a).dy] ∧
      Own psE wr (w.heap.size + 1) A1 c1 zs ∧ w.heap.size + 3 ≤ wr.heap.size ∧ Below w.heap.size w wr)
  case atStart => exact ⟨0, _, 0, [], by omega, rfl, rfl, Nat.le_refl _, hide rfl, wk4, x4, ps4, hz4, hB4⟩
  case round =>
    clear ps4 wk4 x4 hB4 hz4
    obtain ⟨m, A1, c1, zs, hmg, rfl, rfl, hzm, hzs, hwk, hx, own, hz4, hB⟩ := hrel
    have hzB := hB.size
    obtain ⟨x, hxx⟩ : ∃ x, x = itW wd ht xs m a := ⟨_, rfl⟩
    rw [← hxx] at hx
    have hok : OkW wd ht x := by rw [hxx]; exact HOK.out m
    have HX := hide hxx
    obtain ⟨xa_0, xb_0, xc_0, xd_0⟩ := hx.four
    obtain ⟨wa_0, wb_0, wc_0, wd_0⟩ := hwk.four
    clear hxx
    by_cases hlt2 : m < P
    · have hcase : ((m : Int) == 0) = true ∨ (((m : Int) == 0) = false ∧ ¬ (x.x = a.x ∧ x.y = a.y ∧ x.dx = a.dx ∧ x.dy = a.dy)) := by
        by_cases h0 : m = 0
        · exact .inl (by rw [h0]; rfl)
        · refine .inr ⟨by rw [beq_eq_false_iff_ne]; omega, wk_ne ?_⟩
          rw [HX.out]
          exact HNE.out m (by omega) hlt2
      have HRT := hide (psL_next (wd := wd) (ht := ht) (xs := xs) (HAT.out m hlt2))
      rw [← HX.out] at HRT
      have HNEXT := hide (fun (W : World) => l03Next_any wd ht x W HS.out hok)
      have HSTEP := hide (fun (W : World) (hb : Below w.heap.size w W) => l03Step_any b0 wd ht A c xs x W (hp.below hb) HS.out HL.out hok)
      have HIS := hide (fun (W : World) (hb : Below w.heap.size w W) => l13Is_any b0 wd ht x.nx x.ny A c xs W (hp.below hb) HS.out HL.out hok.2.2.2)
      have HIX : Hid (crossB wd ht xs x.nx x.ny = true → ∀ (W : World) (hb : Below w.heap.size w W), Calls Try.prog 168 #[.pointer (some ⟨b0, 0, none⟩), .agg #[.int .i64 x.nx, .int .i64 x.ny]] W (RetV W (.int .i64 ((idxW wd xs x : Nat) : Int)))) := hide (fun hcr W hb => l13Index_any b0 wd ht x.nx x.ny A c xs W (hp.below hb) HS.out HL.out hn hok.2.2.2 (cross_iff.1 hcr).1)
      have HOV := hide (fun (W : World) => l13Over_any wd ht x W HS.out hok)
      have HNX : Hid (itW wd ht xs (m + 1) a = stepW wd ht xs x) := hide (by rw [HX.out]; rfl)
      rcases hcase with h0 | ⟨h0, hne⟩
      case' inr => have hneq := fun W => run_neq_wk hne W
      all_goals
        go_wp2_with fail
        refine ((HNEXT.out _)).mono ?_
        rintro e w4 ⟨rfl, hb4⟩
        have ps_4 := (own).below hb4
        have hwk_4 := (hwk).below hb4
        have hx_4 := (hx).below hb4
        have z_4 : wr.heap.size ≤ w4.heap.size := hb4.size
        have B_4 := (Below.refl wr.heap.size wr).trans (hb4.mono (by first | omega | (simp; omega) | simp))
        obtain ⟨xa_4, xb_4, xc_4, xd_4⟩ := (((hx_4).alloc (.cells #[.int .i64 x.nx, .int .i64 x.ny] 110))).four
        clear xa_0 xb_0 xc_0 xd_0 wa_0 wb_0 wc_0 wd_0
        obtain ⟨ata_x1, atb_x1⟩ := (Bx.new_ w4 (w4.heap.size) 110 #[.int .i64 x.nx, .int .i64 x.ny] (by simp)).two
        go_wp2_with fail
        refine ((HIS.out _ (hB.trans ((((B_4).alloc (by first | omega | (simp; omega) | simp) (.cells #[.int .i64 x.nx, .int .i64 x.ny] 110))).mono (by omega))))).mono ?_
        rintro e w6 ⟨rfl, hb6⟩
        have ps_6 := ((ps_4).alloc (.cells #[.int .i64 x.nx, .int .i64 x.ny] 110)).below hb6
        have hwk_6 := ((hwk_4).alloc (.cells #[.int .i64 x.nx, .int .i64 x.ny] 110)).below hb6
        have hx_6 := ((hx_4).alloc (.cells #[.int .i64 x.nx, .int .i64 x.ny] 110)).below hb6
        have at_6 := (Bx.new_ w4 (w4.heap.size) 110 #[.int .i64 x.nx, .int .i64 x.ny] (by simp)).below hb6
        obtain ⟨ata_6, atb_6⟩ := (at_6).two
        have z_6 : (w4.alloc (.cells #[.int .i64 x.nx, .int .i64 x.ny] 110)).heap.size ≤ w6.heap.size := hb6.size
        simp only [World.size_alloc] at z_6
        have B_6 := ((B_4).alloc (by first | omega | (simp; omega) | simp) (.cells #[.int .i64 x.nx, .int .i64 x.ny] 110)).trans (hb6.mono (by first | omega | (simp; omega) | simp))
        obtain ⟨xa_6, xb_6, xc_6, xd_6⟩ := ((hx_6)).four
        clear xa_4 xb_4 xc_4 xd_4 h0
        have hz6 : w.heap.size + 3 ≤ w6.heap.size := by omega
        have hB6 := hB.trans (((B_6)).mono (by omega))
        have OX := hide (And.intro ((hwk_6)) (And.intro ((hx_6)) ((ps_6))))
        have hat6 := (at_6)
        cases hcr : crossB wd ht xs x.nx x.ny
        · have HR1 : Hid (zs = psL wd ht xs (orb.take (m + 1))) := hide (by rw [HRT.out, psOf_no hcr, List.append_nil]; exact hzs.out)
          have HST := hide (HSTEP.out _ hB6)
          clear hcr
          go_wp2_with fail
          refine HST.out.mono ?_
          rintro e w9 ⟨rfl, hb9⟩
          obtain ⟨q1, q2, q3⟩ := OX.out
          have q19 := q1.below hb9
          have q29 := q2.below hb9
          have q39 := q3.below hb9
          have hB9 := hB6.trans (hb9.mono hB6.size)
          have hz9 := hb9.size
          have hfb : ∀ g, blk A1 = some g → g ≠ w.heap.size + 1 + 1 := fun g hg e => by
            have h := q39.box_ne q29 (by decide)
            rw [hg, e] at h
            exact h rfl
          obtain ⟨xg_0, xg_1, xg_2, xg_3⟩ := q29.four
          have xf0 := q29.frozen 0
          have xf1 := q29.frozen 1
          have xf2 := q29.frozen 2
          have xf3 := q29.frozen 3
          clear xa_6 xb_6 xc_6 xd_6
          go_wp2_with fail
          go_roundg (P - (m + 1))
          case measure => omega
          case rel => exact ⟨m + 1, A1, c1, zs, by omega, by go_num, rfl, by omega, HR1, bx_far4 q19 (by omega), by rw [HNX.out]; exact bx_put4 q29, own_far4 q39 (fun e => hfb _ e rfl), by simp; omega, below_put4_ hB9 (by omega)⟩
        · have HR1 : Hid (zs ++ [((idxW wd xs x : Int), overB x)] = psL wd ht xs (orb.take (m + 1))) := hide (by rw [HRT.out, psOf_yes hcr, hzs.out])
          have HI2 := hide (HIX.out hcr)
          have C0 : Below w6.heap.size w6 w6.drew := (Below.refl _ _).drew
          have hil6 := idx_lt HS.out HL.out hok hcr
          have hzt := zTo_len xs xs.length
          clear hcr
          go_upto_region 8 with fail
          go_cut [5] (fun s5 wx => ∃ (A3 : Option Addr) (c3 : Nat), s5 = .slice A3 (zs.length + 1) c3 ∧ Own psE wx (w.heap.size + 1) A3 c3 (zs ++ [((idxW wd xs x : Int), overB x)]) ∧ Bx wx w.heap.size 112 #[.int .i64 a.x, .int .i64 a.y, .int .i64 a.dx, .int .i64 a.dy] ∧ Bx wx (w.heap.size + 1 + 1) 112 #[.int .i64 x.x, .int .i64 x.y, .int .i64 x.dx, .int .i64 x.dy] ∧ w.heap.size + 3 ≤ wx.heap.size ∧ Below w.heap.size w wx)
          case first =>
            go_region_held3 (fun w' => w'.cell? ⟨w4.heap.size, 0, none⟩ = some (.int .i64 x.nx) ∧ w'.cell? ⟨w4.heap.size, 1, none⟩ = some (.int .i64 x.ny) ∧ w'.cell? ⟨w.heap.size + 1 + 1, 0, none⟩ = some (.int .i64 x.x) ∧ w'.cell? ⟨w.heap.size + 1 + 1, 1, none⟩ = some (.int .i64 x.y) ∧ w'.cell? ⟨w.heap.size + 1 + 1, 2, none⟩ = some (.int .i64 x.dx) ∧ w'.cell? ⟨w.heap.size + 1 + 1, 3, none⟩ = some (.int .i64 x.dy))
              (first | exact (And.intro hat6.two.1 (And.intro hat6.two.2 OX.out.2.1.four)) | exact (And.intro (hat6.below CX).two.1 (And.intro (hat6.below CX).two.2 (OX.out.2.1.below CX).four)) | exact (And.intro (hat6.below CY).two.1 (And.intro (hat6.below CY).two.2 (OX.out.2.1.below CY).four)) | exact (And.intro ((hat6.below CX).alloc _).two.1 (And.intro ((hat6.below CX).alloc _).two.2 ((OX.out.2.1.below CX).alloc _).four)) | exact (And.intro ((hat6.below CY).alloc _).two.1 (And.intro ((hat6.below CY).alloc _).two.2 ((OX.out.2.1.below CY).alloc _).four)) | exact (And.intro (((hat6.below CX).alloc _).grownG ((OX.out.2.2.below CX).alloc _) (by decide) hg5).two.1 (And.intro (((hat6.below CX).alloc _).grownG ((OX.out.2.2.below CX).alloc _) (by decide) hg5).two.2 (((OX.out.2.1.below CX).alloc _).grownG ((OX.out.2.2.below CX).alloc _) (by decide) hg5).four)) | exact (And.intro (((hat6.below CY).alloc _).grownG ((OX.out.2.2.below CY).alloc _) (by decide) hg5).two.1 (And.intro (((hat6.below CY).alloc _).grownG ((OX.out.2.2.below CY).alloc _) (by decide) hg5).two.2 (((OX.out.2.1.below CY).alloc _).grownG ((OX.out.2.2.below CY).alloc _) (by decide) hg5).four)) | fail)
              (first
                | (go_at_call 168; refine (ret_since (HI2.out _ (by first | exact hB6.trans (CY.mono hB6.size) | exact hB6.trans (C0.mono hB6.size))) (W0 := w6) (B0 := w6.heap.size) (by first | exact CY | exact C0) (by first | exact CY.size | exact C0.size)).mono ?_; rintro e wx ⟨rfl, CX⟩)
                | (go_at_call 169; refine (ret_since (HOV.out _) (W0 := w6) (B0 := w6.heap.size) (by first | exact CX | exact C0) (by first | exact CX.size | exact C0.size)).mono ?_; rintro e wy ⟨rfl, CY⟩)
                | (refine step_append_row psE rfl (.tmp 25) (.tmp 32) rfl (w.heap.size + 1) A1 c1 zs rfl ((OX.out.2.2.below CX).alloc _) (some ⟨wx.heap.size, 0, none⟩) 1 [((idxW wd xs x : Int), overB x)] rfl (RG.fresh (E := psE) _ _ rfl _ #[.int .i64 (idxW wd xs x : Int), .bool (overB x)] rfl _) (by simp; omega) (by simp [psE]; omega) (by simp; have := CX.size; omega) _ rfl ?_; intro A5 c5 w5 own5 hg5 hb5)
                | (refine step_append_row psE rfl (.tmp 25) (.tmp 32) rfl (w.heap.size + 1) A1 c1 zs rfl ((OX.out.2.2.below CY).alloc _) (some ⟨wy.heap.size, 0, none⟩) 1 [((idxW wd xs x : Int), overB x)] rfl (RG.fresh (E := psE) _ _ rfl _ #[.int .i64 (idxW wd xs x : Int), .bool (overB x)] rfl _) (by simp; omega) (by simp [psE]; omega) (by simp; have := CY.size; omega) _ rfl ?_; intro A5 c5 w5 own5 hg5 hb5)
                | fail)
            all_goals go_wp2_with fail
            all_goals go_meet
            all_goals first
              | exact ⟨A5, c5, by simp, own5, ((OX.out.1.below CX).alloc _).grownG ((OX.out.2.2.below CX).alloc _) (by decide) hg5, ((OX.out.2.1.below CX).alloc _).grownG ((OX.out.2.2.below CX).alloc _) (by decide) hg5, Nat.le_trans (by have := CX.size; simp; omega) hg5.size, ((hB6.trans (CX.mono hB6.size)).alloc (Nat.le_trans hB6.size CX.size) _).grown hg5 (by simp; have := CX.size; omega) (fun q hq => by have := (OX.out.2.2.ge hq).1; omega)⟩
              | exact ⟨A5, c5, by simp, own5, ((OX.out.1.below CY).alloc _).grownG ((OX.out.2.2.below CY).alloc _) (by decide) hg5, ((OX.out.2.1.below CY).alloc _).grownG ((OX.out.2.2.below CY).alloc _) (by decide) hg5, Nat.le_trans (by have := CY.size; simp; omega) hg5.size, ((hB6.trans (CY.mono hB6.size)).alloc (Nat.le_trans hB6.size CY.size) _).grown hg5 (by simp; have := CY.size; omega) (fun q hq => by have := (OX.out.2.2.ge hq).1; omega)⟩
          case rest =>
            obtain ⟨A3, c3, rfl, own3, bw3, bx3, hz3, hB3⟩ := hcut
            obtain ⟨w7, rfl⟩ : ∃ w7 : World, w7 = wc := ⟨_, rfl⟩
            have hlen3 : (zs ++ [((idxW wd xs x : Int), overB x)]).length = zs.length + 1 := by simp
            have HST := hide (HSTEP.out _ hB3)
            obtain ⟨zs3, hzs3⟩ : ∃ zs3, zs3 = zs ++ [((idxW wd xs x : Int), overB x)] := ⟨_, rfl⟩
            rw [← hzs3] at own3 hlen3 HR1
            obtain ⟨xa_7, xb_7, xc_7, xd_7⟩ := bx3.four
            clear hzs3 OX xa_6 xb_6 xc_6 xd_6
            go_wp2_with fail
            refine HST.out.mono ?_
            rintro e w9 ⟨rfl, hb9⟩
            have q19 := bw3.below hb9
            have q29 := bx3.below hb9
            have q39 := own3.below hb9
            have hB9 := hB3.trans (hb9.mono hB3.size)
            have hz9 := hb9.size
            have hfb : ∀ g, blk A3 = some g → g ≠ w.heap.size + 1 + 1 := fun g hg e => by
              have h := q39.box_ne q29 (by decide)
              rw [hg, e] at h
              exact h rfl
            obtain ⟨xg_0, xg_1, xg_2, xg_3⟩ := q29.four
            have xf0 := q29.frozen 0
            have xf1 := q29.frozen 1
            have xf2 := q29.frozen 2
            have xf3 := q29.frozen 3
            clear xa_7 xb_7 xc_7 xd_7
            go_wp2_with fail
            go_roundg (P - (m + 1))
            case measure => omega
            case rel => exact ⟨m + 1, A3, c3, zs3, by omega, by go_num, by rw [hlen3], by omega, HR1, bx_far4 q19 (by omega), by rw [HNX.out]; exact bx_put4 q29, own_far4 q39 (fun e => hfb _ e rfl), by simp; omega, below_put4_ hB9 (by omega)⟩
    · have hmP : P = m := by omega
      have hm1 : ((m : Int) == 0) = false := by rw [beq_eq_false_iff_ne]; omega
      have hxa : x = a := by rw [HX.out, ← hmP, HP.out]
      have hz2 := hzs.out
      rw [← hmP, List.take_of_length_le (by rw [HOL.out]; exact Nat.le_refl _)] at hz2
      have HZP := hide hz2
      clear hlt2 hmP HX hmg hzs hz2
      subst hxa
      go_wp2_with fail
      go_ret
      rw [← HZP.out]
      exact ⟨A1, c1, rfl, own.mono (by omega), hB⟩
end Go.Proofs.Ytnjojnnapdhijaa
