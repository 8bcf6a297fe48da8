/-
  Contract: the passes of a curve, of the program. Conditions: a valid panel's sides and breaks.
-/
import Derived.Test.YtnjojnnapdhijaaCodePan
import Derived.Deep.RegionHeld3
namespace Go.Proofs.Ytnjojnnapdhijaa
open Go.RowKit
set_option linter.unusedVariables false

set_option maxRecDepth 20000 in
set_option maxHeartbeats 8000000 in
theorem passes_any (wd ht : Int) (A : Option Addr) (c : Nat) (xs : List Int) (b1 : Nat) (AW : Option Addr) (cW : Nat) (cur : List Wk) (w : World) (hxs : RI w A xs) (hcap : xs.length ≤ c ∧ c ≤ 9223372036854775807) (hs : Sz wd ht) (hl : (xs.length : Int) = innerN wd ht) (hn : xs.length ≤ 1048576) (hcur : Own wkE w b1 AW cW cur) (hok : ∀ x ∈ cur, OkW wd ht x) (hlen : cur.length ≤ 256) :
    Calls Try.prog 69 #[.agg #[.int .i64 wd, .int .i64 ht, .slice A xs.length c], .slice AW cur.length cW] w (RetPs w (psL wd ht xs cur)) := by
  have HL := hide hl
  have HS := hide hs
  have HCAP := hide hcap
  have HOK := hide hok
  have HCUR := hide hcur
  obtain ⟨P, hP⟩ : ∃ P, P = cur.length := ⟨_, rfl⟩
  rw [← hP] at hlen ⊢
  have HPL := hide hP
  clear hs hl hok hcur hcap hP
  have own0 := Own.new_ (E := psE) (w.alloc (.cells #[.int .i64 wd, .int .i64 ht, .slice A xs.length c] 36)) (base := w.heap.size + 1) (w.heap.size + 1) [] #[] (by simp) rfl (by simp) (by simp)
  obtain ⟨pa_x1, pb_x1, pc_x1⟩ := ((Bx.new_ w (w.heap.size) 36 #[.int .i64 wd, .int .i64 ht, .slice A xs.length c] (by simp)).alloc (.cells #[] 81)).three
  have ps4 := (own0)
  have p4 := ((Bx.new_ w (w.heap.size) 36 #[.int .i64 wd, .int .i64 ht, .slice A xs.length c] (by simp)).alloc (.cells #[] 81))
  have hB4 := (((Below.refl w.heap.size w).alloc (by first | omega | (simp; omega) | simp) (.cells #[.int .i64 wd, .int .i64 ht, .slice A xs.length c] 36)).alloc (by first | omega | (simp; omega) | simp) (.cells #[] 81))
  clear own0
  go_enter Try.func69, Try.ntmps69
  go_wp2_with fail
  go_loopw [5, 12] (fun s5 s12 wr => ∃ (m : Nat) (A1 : Option Addr) (c1 : Nat) (zs : List (Int × Bool)), m ≤ P ∧ s12 = .int .i64 (m : Int) ∧ s5 = .slice A1 zs.length c1 ∧ zs.length ≤ m ∧ Hid (zs = psL wd ht xs (cur.take m)) ∧ Bx wr w.heap.size 36 #[.int .i64 wd, .int .i64 ht, .slice A xs.length c] ∧ Own psE wr (w.heap.size + 1) A1 c1 zs ∧ Below w.heap.size w wr) (fun _ s12 _ => P - (intOf s12).toNat)
  case atStart => exact ⟨0, _, 0, [], Nat.zero_le _, rfl, rfl, Nat.le_refl _, hide rfl, p4, ps4, hB4⟩
  case round =>
    clear ps4 p4 hB4
    obtain ⟨m, A1, c1, zs, hmP, rfl, rfl, hzm, hzs, hp, own, hB⟩ := hrel
    have hzB := hB.size
    by_cases hlt2 : m < P
    · obtain ⟨gx, x, rfl, hgxb, hgxs, hxi, xa, xb, xc, xd, _⟩ := (HCUR.out.below hB).wk (k := m) (by rw [← HPL.out]; exact hlt2)
      have hok : OkW wd ht x := HOK.out x (List.mem_of_getElem? hxi)
      have HRT := hide (psL_next (wd := wd) (ht := ht) (xs := xs) hxi)
      have HNEXT := hide (fun (W : World) => next_any wd ht x W HS.out hok)
      have HIS := hide (fun (W : World) (hb : Below w.heap.size w W) => isCrossing_any wd ht x.nx x.ny A c xs W (hxs.below hb) HS.out HL.out hok.2.2.2)
      have HIX : Hid (crossB wd ht xs x.nx x.ny = true → ∀ (W : World) (hb : Below w.heap.size w W), Calls Try.prog 117 #[.agg #[.int .i64 wd, .int .i64 ht, .slice A xs.length c], .agg #[.int .i64 x.nx, .int .i64 x.ny]] W (RetV W (.int .i64 ((idxW wd xs x : Nat) : Int)))) := hide (fun hcr W hb => crossingIndex_any wd ht x.nx x.ny A c xs W (hxs.below hb) HCAP.out HS.out HL.out hn hok.2.2.2 (cross_iff.1 hcr).1)
      have HIL : Hid (crossB wd ht xs x.nx x.ny = true → idxW wd xs x < (zTo xs xs.length).length) := hide (fun hcr => idx_lt HS.out HL.out hok hcr)
      obtain ⟨b1', b2, b3, b4, b5, b6⟩ := hok.bounds HS.out
      have HOV := hide (fun (W : World) => overSlope_any x.nx x.ny W b3.1 b3.2)
      have hpr := prod_pm hok.1 hok.2.1
      have HEQ : Hid ((x.dx * x.dy == slopeI x.nx) = overB x) := hide (by unfold overB; exact Bool.beq_comm)
      have hbm : IntKind.i64.wrap (x.dx * x.dy) = x.dx * x.dy := by rw [IntKind.wrap_i64]; omega
      have HBM := hide hbm
      obtain ⟨pa_0, pb_0, pc_0⟩ := hp.three
      clear hxi hok hbm hpr
      obtain ⟨xa_x1, xb_x1, xc_x1, xd_x1⟩ := (Bx.new_ wr (wr.heap.size) 112 #[.int .i64 x.x, .int .i64 x.y, .int .i64 x.dx, .int .i64 x.dy] (by simp)).four
      go_wp2_with fail
      refine ((HNEXT.out _)).mono ?_
      rintro e w4 ⟨rfl, hb4⟩
      have ps_4 := ((own).alloc (.cells #[.int .i64 x.x, .int .i64 x.y, .int .i64 x.dx, .int .i64 x.dy] 112)).below hb4
      have hp_4 := ((hp).alloc (.cells #[.int .i64 x.x, .int .i64 x.y, .int .i64 x.dx, .int .i64 x.dy] 112)).below hb4
      have x_4 := (Bx.new_ wr (wr.heap.size) 112 #[.int .i64 x.x, .int .i64 x.y, .int .i64 x.dx, .int .i64 x.dy] (by simp)).below hb4
      obtain ⟨xa_4, xb_4, xc_4, xd_4⟩ := (x_4).four
      have z_4 : (wr.alloc (.cells #[.int .i64 x.x, .int .i64 x.y, .int .i64 x.dx, .int .i64 x.dy] 112)).heap.size ≤ w4.heap.size := hb4.size
      simp only [World.size_alloc] at z_4
      have B_4 := ((Below.refl wr.heap.size wr).alloc (by first | omega | (simp; omega) | simp) (.cells #[.int .i64 x.x, .int .i64 x.y, .int .i64 x.dx, .int .i64 x.dy] 112)).trans (hb4.mono (by first | omega | (simp; omega) | simp))
      obtain ⟨ata_x2, atb_x2⟩ := (Bx.new_ w4 (w4.heap.size) 110 #[.int .i64 x.nx, .int .i64 x.ny] (by simp)).two
      obtain ⟨pa_4, pb_4, pc_4⟩ := (((hp_4).alloc (.cells #[.int .i64 x.nx, .int .i64 x.ny] 110))).three
      clear xa xb xc xd pa_0 pb_0 pc_0
      go_wp2_with fail
      refine ((HIS.out _ (hB.trans ((((B_4).alloc (by first | omega | (simp; omega) | simp) (.cells #[.int .i64 x.nx, .int .i64 x.ny] 110))).mono (by omega))))).mono ?_
      rintro e w5 ⟨rfl, hb5⟩
      have ps_5 := ((ps_4).alloc (.cells #[.int .i64 x.nx, .int .i64 x.ny] 110)).below hb5
      have hp_5 := ((hp_4).alloc (.cells #[.int .i64 x.nx, .int .i64 x.ny] 110)).below hb5
      have x_5 := ((x_4).alloc (.cells #[.int .i64 x.nx, .int .i64 x.ny] 110)).below hb5
      obtain ⟨xa_5, xb_5, xc_5, xd_5⟩ := (x_5).four
      have at_5 := (Bx.new_ w4 (w4.heap.size) 110 #[.int .i64 x.nx, .int .i64 x.ny] (by simp)).below hb5
      obtain ⟨ata_5, atb_5⟩ := (at_5).two
      have z_5 : (w4.alloc (.cells #[.int .i64 x.nx, .int .i64 x.ny] 110)).heap.size ≤ w5.heap.size := hb5.size
      simp only [World.size_alloc] at z_5
      have B_5 := ((B_4).alloc (by first | omega | (simp; omega) | simp) (.cells #[.int .i64 x.nx, .int .i64 x.ny] 110)).trans (hb5.mono (by first | omega | (simp; omega) | simp))
      have hB5 := hB.trans (((B_5)).mono (by omega))
      clear pa_4 pb_4 pc_4 own hp ps_4 hp_4 x_4 xa_4 xb_4 xc_4 xd_4
      have hz5 := hB5.size
      cases hcr : crossB wd ht xs x.nx x.ny
      · have HR1 : Hid (zs = psL wd ht xs (cur.take (m + 1))) := hide (by rw [HRT.out, psOf_no hcr, List.append_nil]; exact hzs.out)
        clear hcr
        go_wp2_with fail
        go_roundw
        case rel => exact ⟨m + 1, A1, c1, zs, by omega, by go_num, rfl, by omega, HR1, hp_5, ps_5, hB5⟩
        case measure => simp [intOf]; omega
      · have HR1 : Hid (zs ++ [((idxW wd xs x : Int), overB x)] = psL wd ht xs (cur.take (m + 1))) := hide (by rw [HRT.out, psOf_yes hcr, hzs.out])
        have HI2 := hide (HIX.out hcr)
        have hil6 := HIL.out hcr
        have hzt := zTo_len xs xs.length
        have C0 : Below w5.heap.size w5 w5.drew := (Below.refl _ _).drew
        have OX := hide (And.intro hp_5 (And.intro x_5 (And.intro at_5 ps_5)))
        have keepS : Hid (∀ W, Below w5.heap.size w5 W → (W.cell? ⟨w.heap.size, 0, none⟩ = some (.int .i64 wd) ∧ W.cell? ⟨w.heap.size, 1, none⟩ = some (.int .i64 ht) ∧ W.cell? ⟨w.heap.size, 2, none⟩ = some (.slice A xs.length c)) ∧ (W.cell? ⟨w4.heap.size, 0, none⟩ = some (.int .i64 x.nx) ∧ W.cell? ⟨w4.heap.size, 1, none⟩ = some (.int .i64 x.ny)) ∧ (W.cell? ⟨wr.heap.size, 0, none⟩ = some (.int .i64 x.x) ∧ W.cell? ⟨wr.heap.size, 1, none⟩ = some (.int .i64 x.y) ∧ W.cell? ⟨wr.heap.size, 2, none⟩ = some (.int .i64 x.dx) ∧ W.cell? ⟨wr.heap.size, 3, none⟩ = some (.int .i64 x.dy))) := hide fun W hW => ⟨(OX.out.1.below hW).three, (OX.out.2.2.1.below hW).two, (OX.out.2.1.below hW).four⟩
        have keepG : Hid (∀ W O W', Below w5.heap.size w5 W → (W.alloc O).grownBy W' (blk A1) → (W'.cell? ⟨w.heap.size, 0, none⟩ = some (.int .i64 wd) ∧ W'.cell? ⟨w.heap.size, 1, none⟩ = some (.int .i64 ht) ∧ W'.cell? ⟨w.heap.size, 2, none⟩ = some (.slice A xs.length c)) ∧ (W'.cell? ⟨w4.heap.size, 0, none⟩ = some (.int .i64 x.nx) ∧ W'.cell? ⟨w4.heap.size, 1, none⟩ = some (.int .i64 x.ny)) ∧ (W'.cell? ⟨wr.heap.size, 0, none⟩ = some (.int .i64 x.x) ∧ W'.cell? ⟨wr.heap.size, 1, none⟩ = some (.int .i64 x.y) ∧ W'.cell? ⟨wr.heap.size, 2, none⟩ = some (.int .i64 x.dx) ∧ W'.cell? ⟨wr.heap.size, 3, none⟩ = some (.int .i64 x.dy))) := hide fun W O W' hW hg =>
          ⟨(((OX.out.1.below hW).alloc O).grownG ((OX.out.2.2.2.below hW).alloc O) (by decide) hg).three, (((OX.out.2.2.1.below hW).alloc O).grownG ((OX.out.2.2.2.below hW).alloc O) (by decide) hg).two, (((OX.out.2.1.below hW).alloc O).grownG ((OX.out.2.2.2.below hW).alloc O) (by decide) hg).four⟩
        have hbm := HBM.out
        clear hcr hp_5 x_5 at_5 ps_5 hB hzB
        go_wp2_with fail
        go_region_held3 (fun w' => (w'.cell? ⟨w.heap.size, 0, none⟩ = some (.int .i64 wd) ∧ w'.cell? ⟨w.heap.size, 1, none⟩ = some (.int .i64 ht) ∧ w'.cell? ⟨w.heap.size, 2, none⟩ = some (.slice A xs.length c)) ∧ (w'.cell? ⟨w4.heap.size, 0, none⟩ = some (.int .i64 x.nx) ∧ w'.cell? ⟨w4.heap.size, 1, none⟩ = some (.int .i64 x.ny)) ∧ (w'.cell? ⟨wr.heap.size, 0, none⟩ = some (.int .i64 x.x) ∧ w'.cell? ⟨wr.heap.size, 1, none⟩ = some (.int .i64 x.y) ∧ w'.cell? ⟨wr.heap.size, 2, none⟩ = some (.int .i64 x.dx) ∧ w'.cell? ⟨wr.heap.size, 3, none⟩ = some (.int .i64 x.dy)))
          (first | exact keepS.out _ (Below.refl _ _) | exact keepS.out _ C0 | exact keepS.out _ CX | exact keepS.out _ CY | exact keepS.out _ (CX.alloc CX.size _) | exact keepS.out _ (CY.alloc CY.size _) | exact keepG.out _ _ _ CX hg5 | exact keepG.out _ _ _ CY hg5 | fail)
          (first
            | (go_at_call 117; refine (ret_since (HI2.out _ (by first | exact hB5.trans (CY.mono hB5.size) | exact hB5.trans (C0.mono hB5.size))) (W0 := w5) (B0 := w5.heap.size) (by first | exact CY | exact C0) (by first | exact CY.size | exact C0.size)).mono ?_; rintro e wx ⟨rfl, CX⟩)
            | (go_at_call 118; refine (ret_since (HOV.out _) (W0 := w5) (B0 := w5.heap.size) (by first | exact CX | exact C0) (by first | exact CX.size | exact C0.size)).mono ?_; rintro e wy ⟨rfl, CY⟩)
            | (rw [HEQ.out]; refine step_append_row psE rfl (.tmp 21) (.tmp 34) rfl (w.heap.size + 1) A1 c1 zs rfl ((OX.out.2.2.2.below CX).alloc _) (some ⟨wx.heap.size, 0, none⟩) 1 [((idxW wd xs x : Int), overB x)] rfl (RG.fresh (E := psE) _ _ rfl _ #[.int .i64 (idxW wd xs x : Int), .bool (overB x)] rfl _) (by simp; omega) (by simp [psE]; omega) (by simp; have := CX.size; omega) _ rfl ?_; intro A5 c5 w5' own5 hg5 hb5)
            | (rw [HEQ.out]; refine step_append_row psE rfl (.tmp 21) (.tmp 34) rfl (w.heap.size + 1) A1 c1 zs rfl ((OX.out.2.2.2.below CY).alloc _) (some ⟨wy.heap.size, 0, none⟩) 1 [((idxW wd xs x : Int), overB x)] rfl (RG.fresh (E := psE) _ _ rfl _ #[.int .i64 (idxW wd xs x : Int), .bool (overB x)] rfl _) (by simp; omega) (by simp [psE]; omega) (by simp; have := CY.size; omega) _ rfl ?_; intro A5 c5 w5' own5 hg5 hb5)
            | fail)
        all_goals go_wp2_with fail
        all_goals go_roundw
        all_goals first
          | (simp [intOf]; omega)
          | exact ⟨m + 1, A5, c5, _, by omega, by go_num, by simp, by simp; omega, HR1, ((OX.out.1.below CX).alloc _).grownG ((OX.out.2.2.2.below CX).alloc _) (by decide) hg5, own5, ((hB5.trans (CX.mono hB5.size)).alloc (Nat.le_trans hB5.size CX.size) _).grown hg5 (by simp; have := CX.size; omega) (fun q hq => by have := (OX.out.2.2.2.ge hq).1; omega)⟩
          | exact ⟨m + 1, A5, c5, _, by omega, by go_num, by simp, by simp; omega, HR1, ((OX.out.1.below CY).alloc _).grownG ((OX.out.2.2.2.below CY).alloc _) (by decide) hg5, own5, ((hB5.trans (CY.mono hB5.size)).alloc (Nat.le_trans hB5.size CY.size) _).grown hg5 (by simp; have := CY.size; omega) (fun q hq => by have := (OX.out.2.2.2.ge hq).1; omega)⟩
    · obtain rfl : m = P := by omega
      have hz2 := hzs.out
      rw [List.take_of_length_le (by rw [← HPL.out]; exact Nat.le_refl _)] at hz2
      have HZP := hide hz2
      clear hlt2 hzs hz2
      go_wp2_with fail
      go_ret
      rw [← HZP.out]
      exact ⟨A1, c1, rfl, own.mono (by omega), hB⟩
end Go.Proofs.Ytnjojnnapdhijaa
