/-
  Contract: the walkers that go on at all crossings, and their curves, of the program. Conditions: a valid panel's sides and breaks.
-/
import Derived.Test.YtjlifbdaieblpaaGreatTr11
import Derived.Test.YtjlifbdaieblpaaGreatBel
import Derived.Deep.RegionHeld3
namespace Go.Proofs.YtjlifbdaieblpaaGreat
open Go.RowKit
set_option linter.unusedVariables false

section
variable {w : World} {b : Nat} {o0 o1 o2 o3 : Nat} {u0 u1 u2 u3 : Value}
theorem OwnI.far4 {base : Nat} {A : Option Addr} {c : Nat} {xs : List Int} (h : OwnI w base A c xs) (hne : blk A ≠ some b) : OwnI ((((w.setCell ⟨b, o0, none⟩ u0).setCell ⟨b, o1, none⟩ u1).setCell ⟨b, o2, none⟩ u2).setCell ⟨b, o3, none⟩ u3) base A c xs := by
  rw [← intE_own] at h ⊢
  exact h.far4 hne
theorem RowsG.far4 {α : Type} {E : El α} {base top : Nat} {hs : List Hd} {rows : List (List α)} (h : RowsG E w base top hs rows) (hb : b < base ∨ top ≤ b) : RowsG E ((((w.setCell ⟨b, o0, none⟩ u0).setCell ⟨b, o1, none⟩ u1).setCell ⟨b, o2, none⟩ u2).setCell ⟨b, o3, none⟩ u3) base top hs rows :=
  (((h.setFar (p := ⟨b, o0, none⟩) hb u0).setFar (p := ⟨b, o1, none⟩) hb u1).setFar (p := ⟨b, o2, none⟩) hb u2).setFar (p := ⟨b, o3, none⟩) hb u3
end
/-- What directions hands back. -/
def RetDir (wd ht : Int) (xs : List Int) (w : World) (e : Ending) (w' : World) : Prop :=
  ∃ A a B b C c D d, e = .returned (.tuple #[.slice A (dirL wd ht xs true).length a, .slice B (dirL wd ht xs false).length b, .slice C (dirC wd ht xs true).length c, .slice D (dirC wd ht xs false).length d]) ∧
    Own wkE w' w.heap.size A a (dirL wd ht xs true) ∧ Own wkE w' w.heap.size B b (dirL wd ht xs false) ∧ OwnI w' w.heap.size C c (dirC wd ht xs true) ∧ OwnI w' w.heap.size D d (dirC wd ht xs false) ∧ Below w.heap.size w w'

set_option maxRecDepth 20000 in
set_option maxHeartbeats 16000000 in
theorem directions_any (wd ht : Int) (A : Option Addr) (c : Nat) (xs : List Int) (w : World) (hxs : RI w A xs) (hcap : xs.length ≤ c ∧ c ≤ 9223372036854775807) (hs : Sz wd ht) (hl : (xs.length : Int) = innerN wd ht) (hn : xs.length ≤ 1048576) :
    Calls Tryz.prog 53 #[.agg #[.int .i64 wd, .int .i64 ht, .slice A xs.length c]] w (RetDir wd ht xs w) := by
  have hcl : (curL wd ht xs).length ≤ 256 := by have h1 := (trInv_all (xs := xs) hs).cnt; have h2 := nSeg_int hs; simp only at h1; omega
  have HL := hide hl
  have HS := hide hs
  have HCAP := hide hcap
  obtain ⟨n, hnn⟩ : ∃ n, n = (zTo xs xs.length).length := ⟨_, rfl⟩
  have HNN := hide hnn
  have hnl : n ≤ 1048576 := by have := zTo_len xs xs.length; omega
  have hmk : ∀ W : World, (Instr.makeSlice 73 (.int .i64 (n : Int)) (.int .i64 (n : Int))).run Tryz.prog W = .ok (.slice (some ⟨W.heap.size, 0, none⟩) n n) (W.alloc (.cells (madeCells #[.int .i64 0, .int .i64 0, .int .i64 0, .int .i64 0] (n * 4)) 79)) := fun W => wkE.run_make n (by simp [wkE]; omega) (by omega) W
  have hmi := fun W : World => run_make_i64 n (by omega) W
  have HALL := hide (fun (W : World) (hb : Below w.heap.size w W) => crossingNumbers_any wd ht A c xs W (hxs.below hb) hn)
  clear hs hl hnn hcap
  obtain ⟨pa_x1, pb_x1, pc_x1⟩ := (Bx.new_ w (w.heap.size) 26 #[.int .i64 wd, .int .i64 ht, .slice A xs.length c] (by simp)).three
  go_enter Tryz.func53, Tryz.ntmps53
  go_wp2_with fail
  refine (HALL.out _ ((Below.refl w.heap.size w).alloc (by first | omega | (simp; omega) | simp) (.cells #[.int .i64 wd, .int .i64 ht, .slice A xs.length c] 26))).mono ?_
  rintro e w1 ⟨A1, c1, rfl, own1, hb1⟩
  have p_1 := (Bx.new_ w (w.heap.size) 26 #[.int .i64 wd, .int .i64 ht, .slice A xs.length c] (by simp)).below hb1
  obtain ⟨pa_1, pb_1, pc_1⟩ := (p_1).three
  have z_1 : (w.alloc (.cells #[.int .i64 wd, .int .i64 ht, .slice A xs.length c] 26)).heap.size ≤ w1.heap.size := hb1.size
  simp only [World.size_alloc] at z_1
  have B_1 := ((Below.refl w.heap.size w).alloc (by first | omega | (simp; omega) | simp) (.cells #[.int .i64 wd, .int .i64 ht, .slice A xs.length c] 26)).trans (hb1.mono (by first | omega | (simp; omega) | simp))
  rw [← HNN.out]
  clear own1
  have hp1 := (p_1)
  have hB1 := (B_1)
  have hz1 := hB1.size
  go_upto_region 2 with fail
  go_cut [7, 8] (fun s7 s8 wx => ∃ g1 g2, s7 = .slice (some ⟨g1, 0, none⟩) n n ∧ s8 = .slice (some ⟨g2, 0, none⟩) n n ∧ g1 ≠ g2 ∧ w1.heap.size ≤ g1 ∧ w1.heap.size ≤ g2 ∧ Own wkE wx w.heap.size (some ⟨g1, 0, none⟩) n (List.replicate n zW) ∧ Own wkE wx w.heap.size (some ⟨g2, 0, none⟩) n (List.replicate n zW) ∧ Below w1.heap.size w1 wx)
  case first =>
    have h1 : Own wkE ((w1.alloc (.cells (madeCells #[.int .i64 0, .int .i64 0, .int .i64 0, .int .i64 0] (n * 4)) 79)).alloc (.cells (madeCells #[.int .i64 0, .int .i64 0, .int .i64 0, .int .i64 0] (n * 4)) 79)).drew w.heap.size (some ⟨w1.heap.size, 0, none⟩) n (List.replicate n zW) := ((Own.made (E := wkE) w1 w1.heap.size (m := n) zW rfl rfl hz1 (by omega)).alloc _).drew
    have h2 : Own wkE ((w1.alloc (.cells (madeCells #[.int .i64 0, .int .i64 0, .int .i64 0, .int .i64 0] (n * 4)) 79)).alloc (.cells (madeCells #[.int .i64 0, .int .i64 0, .int .i64 0, .int .i64 0] (n * 4)) 79)).drew w.heap.size (some ⟨w1.heap.size + 1, 0, none⟩) n (List.replicate n zW) := (Own.made (E := wkE) (w1.alloc (.cells (madeCells #[.int .i64 0, .int .i64 0, .int .i64 0, .int .i64 0] (n * 4)) 79)) (w1.heap.size + 1) (m := n) zW rfl (by simp) (by simp; omega) (by omega)).drew
    have h3 : Below w1.heap.size w1 ((w1.alloc (.cells (madeCells #[.int .i64 0, .int .i64 0, .int .i64 0, .int .i64 0] (n * 4)) 79)).alloc (.cells (madeCells #[.int .i64 0, .int .i64 0, .int .i64 0, .int .i64 0] (n * 4)) 79)).drew := (((Below.refl _ _).alloc (Nat.le_refl _) _).alloc (by simp) _).drew
    have H := hide (And.intro h1 (And.intro h2 h3))
    clear h1 h2 h3
    go_region
    all_goals go_wp2_with fail
    all_goals go_meet
    all_goals obtain ⟨h1, h2, h3⟩ := H.out
    all_goals first
      | exact ⟨_, _, rfl, rfl, by omega, by omega, by omega, h1, h2, h3⟩
      | exact ⟨_, _, rfl, rfl, by omega, by omega, by omega, h2, h1, h3⟩
  case rest =>
    obtain ⟨g1, g2, rfl, rfl, hg12, hg1, hg2, ov2, un2, hb2⟩ := hcut
    obtain ⟨w2, rfl⟩ : ∃ w2 : World, w2 = wc := ⟨_, rfl⟩
    have hp2 := hp1.below hb2
    have hB2 := hB1.trans (hb2.mono hz1)
    have hz2 := hB2.size
    have hl1 := (ov2.ge rfl).2
    have hl2 := (un2.ge rfl).2
    clear hp1 hB1
    go_upto_region 3 with fail
    go_cut [9, 10] (fun s9 s10 wx => ∃ g3 g4, s9 = .slice (some ⟨g3, 0, none⟩) n n ∧ s10 = .slice (some ⟨g4, 0, none⟩) n n ∧ g3 ≠ g4 ∧ w2.heap.size ≤ g3 ∧ w2.heap.size ≤ g4 ∧ OwnI wx w.heap.size (some ⟨g3, 0, none⟩) n (List.replicate n 0) ∧ OwnI wx w.heap.size (some ⟨g4, 0, none⟩) n (List.replicate n 0) ∧ Below w2.heap.size w2 wx)
    case first =>
      have h1 : OwnI ((w2.alloc (.cells (madeCells #[.int .i64 0] n) 2)).alloc (.cells (madeCells #[.int .i64 0] n) 2)).drew w.heap.size (some ⟨w2.heap.size, 0, none⟩) n (List.replicate n 0) := ((OwnI.made w2 w2.heap.size (m := n) rfl hz2 (by omega)).alloc _).drew
      have h2 : OwnI ((w2.alloc (.cells (madeCells #[.int .i64 0] n) 2)).alloc (.cells (madeCells #[.int .i64 0] n) 2)).drew w.heap.size (some ⟨w2.heap.size + 1, 0, none⟩) n (List.replicate n 0) := (OwnI.made (w2.alloc (.cells (madeCells #[.int .i64 0] n) 2)) (w2.heap.size + 1) (m := n) (by simp) (by simp; omega) (by omega)).drew
      have h3 : Below w2.heap.size w2 ((w2.alloc (.cells (madeCells #[.int .i64 0] n) 2)).alloc (.cells (madeCells #[.int .i64 0] n) 2)).drew := (((Below.refl _ _).alloc (Nat.le_refl _) _).alloc (by simp) _).drew
      have H := hide (And.intro h1 (And.intro h2 h3))
      clear h1 h2 h3
      go_region
      all_goals go_wp2_with fail
      all_goals go_meet
      all_goals obtain ⟨h1, h2, h3⟩ := H.out
      all_goals first
        | exact ⟨_, _, rfl, rfl, by omega, by omega, by omega, h1, h2, h3⟩
        | exact ⟨_, _, rfl, rfl, by omega, by omega, by omega, h2, h1, h3⟩
    case rest =>
      obtain ⟨g3, g4, rfl, rfl, hg34, hg3, hg4, oc3, uc3, hb3⟩ := hcut
      obtain ⟨w3, rfl⟩ : ∃ w3 : World, w3 = wc := ⟨_, rfl⟩
      have hp3 := hp2.below hb3
      have hB3 := hB2.trans (hb3.mono hz2)
      have hz3 := hB3.size
      have hl3 := (oc3.ge rfl).2
      have hl4 := (uc3.ge rfl).2
      have ov3 := ov2.below hb3
      have un3 := un2.below hb3
      have hz23 := hb3.size
      have HTR := hide (trace_any wd ht A c xs w3 (hxs.below hB3) HS.out HL.out)
      obtain ⟨pa_3, pb_3, pc_3⟩ := hp3.three
      clear hp2 hB2 ov2 un2 hb2 hb3
      go_wp2_with fail
      refine HTR.out.mono ?_
      rintro e w4 ⟨AH, cH, A2, c2, hs, rfl, hh4, hr4, _, hb4⟩
      have hp4 := hp3.below hb4
      have hB4 := hB3.trans (hb4.mono hz3)
      have ov4 := ov3.below hb4
      have un4 := un3.below hb4
      have oc4 := oc3.below hb4
      have uc4 := uc3.below hb4
      have HHL := hide hr4.len
      obtain ⟨T0, hT0⟩ : ∃ T, T = w3.heap.size := ⟨_, rfl⟩
      obtain ⟨T1, hT1⟩ : ∃ T, T = w4.heap.size := ⟨_, rfl⟩
      rw [← hT0] at hh4 hr4 hl3 hl4 hz23 hz3
      rw [← hT1] at hr4
      have hT2 : T1 ≤ w4.heap.size := by omega
      have hT3 : T0 ≤ T1 := by have := hb4.size; omega
      obtain ⟨K, hK⟩ : ∃ K, K = (curL wd ht xs).length := ⟨_, rfl⟩
      have HK := hide hK
      have hhl : hs.length = K := by rw [HHL.out, hK]
      have HHK := hide hhl
      have hKl : hs.length ≤ 256 := by omega
      have e1 : (toD wd ht xs true 0) = (List.replicate n zW, List.replicate n 0) := by rw [toD, HNN.out]
      have e2 : (toD wd ht xs false 0) = (List.replicate n zW, List.replicate n 0) := by rw [toD, HNN.out]
      have ov5 : Own wkE w4 w.heap.size (some ⟨g1, 0, none⟩) n (toD wd ht xs true 0).1 := by rw [e1]; exact ov4
      have un5 : Own wkE w4 w.heap.size (some ⟨g2, 0, none⟩) n (toD wd ht xs false 0).1 := by rw [e2]; exact un4
      have oc5 : OwnI w4 w.heap.size (some ⟨g3, 0, none⟩) n (toD wd ht xs true 0).2 := by rw [e1]; exact oc4
      have uc5 : OwnI w4 w.heap.size (some ⟨g4, 0, none⟩) n (toD wd ht xs false 0).2 := by rw [e2]; exact uc4
      have hgb1 := (ov4.ge rfl).1
      have hgb2 := (un4.ge rfl).1
      have hgb3 := (oc4.ge rfl).1
      have hgb4 := (uc4.ge rfl).1
      have hwl : w.heap.size < w1.heap.size := by have := z_1; omega
      clear hp3 hB3 ov3 un3 oc3 uc3 hb4 hT0 hT1 e1 e2 ov4 un4 oc4 uc4 HTR HALL pa_3 pb_3 pc_3 hmk hmi hK hhl hcl pa_x1 pb_x1 pc_x1 p_1 pa_1 pb_1 pc_1 B_1 hb1 z_1
      go_wp2_with fail
      go_loopw [38] (fun iv wr => ∃ (i : Nat), i ≤ K ∧ iv = .int .i64 (i : Int) ∧ Own wkE wr w.heap.size (some ⟨g1, 0, none⟩) n (toD wd ht xs true i).1 ∧ Own wkE wr w.heap.size (some ⟨g2, 0, none⟩) n (toD wd ht xs false i).1 ∧ OwnI wr w.heap.size (some ⟨g3, 0, none⟩) n (toD wd ht xs true i).2 ∧ OwnI wr w.heap.size (some ⟨g4, 0, none⟩) n (toD wd ht xs false i).2 ∧ Bx wr w.heap.size 26 #[.int .i64 wd, .int .i64 ht, .slice A xs.length c] ∧ Own hdW wr T0 AH cH hs ∧ RowsG wkE wr T0 T1 hs (curL wd ht xs) ∧ T1 ≤ wr.heap.size ∧ Below w.heap.size w wr) (fun iv _ => K - (intOf iv).toNat)
      case atStart => exact ⟨0, Nat.zero_le _, rfl, ov5, un5, oc5, uc5, hp4, hh4, hr4, hT2, hB4⟩
      case round =>
        clear ov5 un5 oc5 uc5 hp4 hh4 hr4 hT2 hB4
        obtain ⟨wo, rfl⟩ : ∃ wo, wo = wr := ⟨_, rfl⟩
        obtain ⟨i, hi, rfl, ov, un, oc, uc, hp, hh, hr, hz, hB⟩ := hrel
        by_cases hlt : i < K
        · have hiK : i < hs.length := by rw [HHK.out]; exact hlt
          obtain ⟨hd, orb, hdi, hoi, hdn, hro, hgt⟩ := hr.at_ (k := i) (by rw [← HK.out]; exact hlt)
          obtain ⟨gh, hAh, hghb, hghs, hhc⟩ := hdE_cell hh hdi
          subst hAh
          have HOI := hide hoi
          have HDI := hide hdi
          have HNT := hide (fun b => toD_next (b := b) hoi)
          have HOK := hide (fun x hx => cur_ok (xs := xs) HS.out hoi (a := x) hx)
          obtain ⟨P, hP⟩ : ∃ P, P = orb.length := ⟨_, rfl⟩
          have HPL := hide hP
          have hP2 : P ≤ 256 := by
            obtain ⟨j, hj, hcj, _⟩ := (trInv_all (xs := xs) HS.out).start i _ hoi
            have h1 := (per_spec (xs := xs) HS.out (walkK_ok HS.out hj).1).2.2.1
            have h2 := (nSeg_int HS.out).2.1
            rw [hP, hcj, orbW_len]
            omega
          rw [hdn, ← hP] at hhc
          obtain ⟨Ah, ch, hAc⟩ : ∃ Ah ch, Ah = hd.A ∧ ch = hd.c := ⟨_, _, rfl, rfl⟩
          rw [← hAc.1, ← hAc.2] at hhc
          have HAC := hide hAc
          clear hoi hdi hdn hro hgt hAc hP
          go_wp2_with fail
          go_loopw [45] (fun mv wr => ∃ (m : Nat), m ≤ P ∧ mv = .int .i64 (m : Int) ∧ Own wkE wr w.heap.size (some ⟨g1, 0, none⟩) n (rowD wd ht xs true (i : Int) (toD wd ht xs true i) (orb.take m)).1 ∧ Own wkE wr w.heap.size (some ⟨g2, 0, none⟩) n (rowD wd ht xs false (i : Int) (toD wd ht xs false i) (orb.take m)).1 ∧ OwnI wr w.heap.size (some ⟨g3, 0, none⟩) n (rowD wd ht xs true (i : Int) (toD wd ht xs true i) (orb.take m)).2 ∧ OwnI wr w.heap.size (some ⟨g4, 0, none⟩) n (rowD wd ht xs false (i : Int) (toD wd ht xs false i) (orb.take m)).2 ∧ Bx wr w.heap.size 26 #[.int .i64 wd, .int .i64 ht, .slice A xs.length c] ∧ Own hdW wr T0 (some ⟨gh, 0, none⟩) cH hs ∧ RowsG wkE wr T0 T1 hs (curL wd ht xs) ∧ T1 ≤ wr.heap.size ∧ Below w.heap.size w wr) (fun mv _ => P - (intOf mv).toNat)
          case atStart => exact ⟨0, Nat.zero_le _, rfl, ov, un, oc, uc, hp, hh, hr, hz, hB⟩
          case round =>
            clear ov un oc uc hp hh hr hz hB hhc
            obtain ⟨m, hm, rfl, ov, un, oc, uc, hp, hh, hr, hz, hB⟩ := hrel
            have hzB := hB.size
            by_cases hlt2 : m < P
            · obtain ⟨_, hro, _⟩ := hr.row i hd orb HDI.out HOI.out
              rw [← HAC.out.1, ← HAC.out.2] at hro
              obtain ⟨gx, x, rfl, hgxb, hgxs, hxi, xa, xb, xc, xd, _⟩ := hro.wk (k := m) (by rw [← HPL.out]; exact hlt2)
              have hok : OkW wd ht x := HOK.out x (List.mem_of_getElem? hxi)
              have HRT := hide (fun b => rowD_next (wd := wd) (ht := ht) (xs := xs) (b := b) (c := (i : Int)) (st := toD wd ht xs b i) hxi)
              have HRL : Hid (∀ b, (rowD wd ht xs b (i : Int) (toD wd ht xs b i) (orb.take m)).1.length = n ∧ (rowD wd ht xs b (i : Int) (toD wd ht xs b i) (orb.take m)).2.length = n) := hide (fun b => by
                have h1 := rowD_len (wd := wd) (ht := ht) (xs := xs) (b := b) (c := (i : Int)) (orb.take m) (toD wd ht xs b i)
                have h2 := toD_len (wd := wd) (ht := ht) (xs := xs) (b := b) i
                rw [h1.1, h1.2, h2.1, h2.2, ← HNN.out]
                exact ⟨rfl, rfl⟩)
              have HNEXT := hide (fun (W : World) => next_any wd ht x W HS.out hok)
              have HIS := hide (fun (W : World) (hb : Below w.heap.size w W) => isCrossing_any wd ht x.nx x.ny A c xs W (hxs.below hb) HS.out HL.out hok.2.2.2)
              have HIX : Hid (crossB wd ht xs x.nx x.ny = true → ∀ (W : World) (hb : Below w.heap.size w W), Calls Tryz.prog 80 #[.agg #[.int .i64 wd, .int .i64 ht, .slice A xs.length c], .agg #[.int .i64 x.nx, .int .i64 x.ny]] W (RetV W (.int .i64 ((idxW wd xs x : Nat) : Int)))) := hide (fun hcr W hb => crossingIndex_any wd ht x.nx x.ny A c xs W (hxs.below hb) HCAP.out HS.out HL.out hn hok.2.2.2 (cross_iff.1 hcr).1)
              have HIL : Hid (crossB wd ht xs x.nx x.ny = true → idxW wd xs x < n) := hide (fun hcr => by rw [HNN.out]; exact idx_lt HS.out HL.out hok hcr)
              obtain ⟨b1, b2, b3, b4, b5, b6⟩ := hok.bounds HS.out
              have HOV := hide (fun (W : World) => overSlope_any x.nx x.ny W b3.1 b3.2)
              clear hro hxi
              obtain ⟨xa_x1, xb_x1, xc_x1, xd_x1⟩ := (Bx.new_ wr (wr.heap.size) 79 #[.int .i64 x.x, .int .i64 x.y, .int .i64 x.dx, .int .i64 x.dy] (by simp)).four
              go_wp2_with fail
              refine ((HNEXT.out _)).mono ?_
              rintro e w4 ⟨rfl, hb4⟩
              have ov_4 := ((ov).alloc (.cells #[.int .i64 x.x, .int .i64 x.y, .int .i64 x.dx, .int .i64 x.dy] 79)).below hb4
              have un_4 := ((un).alloc (.cells #[.int .i64 x.x, .int .i64 x.y, .int .i64 x.dx, .int .i64 x.dy] 79)).below hb4
              have oc_4 := ((oc).alloc (.cells #[.int .i64 x.x, .int .i64 x.y, .int .i64 x.dx, .int .i64 x.dy] 79)).below hb4
              have uc_4 := ((uc).alloc (.cells #[.int .i64 x.x, .int .i64 x.y, .int .i64 x.dx, .int .i64 x.dy] 79)).below hb4
              have hp_4 := ((hp).alloc (.cells #[.int .i64 x.x, .int .i64 x.y, .int .i64 x.dx, .int .i64 x.dy] 79)).below hb4
              have hh_4 := ((hh).alloc (.cells #[.int .i64 x.x, .int .i64 x.y, .int .i64 x.dx, .int .i64 x.dy] 79)).below hb4
              have hr_4 := ((hr).alloc (.cells #[.int .i64 x.x, .int .i64 x.y, .int .i64 x.dx, .int .i64 x.dy] 79)).below hb4
              have x_4 := (Bx.new_ wr (wr.heap.size) 79 #[.int .i64 x.x, .int .i64 x.y, .int .i64 x.dx, .int .i64 x.dy] (by simp)).below hb4
              obtain ⟨xa_4, xb_4, xc_4, xd_4⟩ := (x_4).four
              have z_4 : (wr.alloc (.cells #[.int .i64 x.x, .int .i64 x.y, .int .i64 x.dx, .int .i64 x.dy] 79)).heap.size ≤ w4.heap.size := hb4.size
              simp only [World.size_alloc] at z_4
              have B_4 := ((Below.refl wr.heap.size wr).alloc (by first | omega | (simp; omega) | simp) (.cells #[.int .i64 x.x, .int .i64 x.y, .int .i64 x.dx, .int .i64 x.dy] 79)).trans (hb4.mono (by first | omega | (simp; omega) | simp))
              obtain ⟨ata_x2, atb_x2⟩ := (Bx.new_ w4 (w4.heap.size) 77 #[.int .i64 x.nx, .int .i64 x.ny] (by simp)).two
              obtain ⟨pa_4, pb_4, pc_4⟩ := (((hp_4).alloc (.cells #[.int .i64 x.nx, .int .i64 x.ny] 77))).three
              clear xa xb xc xd
              go_wp2_with fail
              refine ((HIS.out _ (hB.trans ((((B_4).alloc (by first | omega | (simp; omega) | simp) (.cells #[.int .i64 x.nx, .int .i64 x.ny] 77))).mono (by omega))))).mono ?_
              rintro e w5 ⟨rfl, hb5⟩
              have ov_5 := ((ov_4).alloc (.cells #[.int .i64 x.nx, .int .i64 x.ny] 77)).below hb5
              have un_5 := ((un_4).alloc (.cells #[.int .i64 x.nx, .int .i64 x.ny] 77)).below hb5
              have oc_5 := ((oc_4).alloc (.cells #[.int .i64 x.nx, .int .i64 x.ny] 77)).below hb5
              have uc_5 := ((uc_4).alloc (.cells #[.int .i64 x.nx, .int .i64 x.ny] 77)).below hb5
              have hp_5 := ((hp_4).alloc (.cells #[.int .i64 x.nx, .int .i64 x.ny] 77)).below hb5
              have hh_5 := ((hh_4).alloc (.cells #[.int .i64 x.nx, .int .i64 x.ny] 77)).below hb5
              have hr_5 := ((hr_4).alloc (.cells #[.int .i64 x.nx, .int .i64 x.ny] 77)).below hb5
              have x_5 := ((x_4).alloc (.cells #[.int .i64 x.nx, .int .i64 x.ny] 77)).below hb5
              obtain ⟨xa_5, xb_5, xc_5, xd_5⟩ := (x_5).four
              have at_5 := (Bx.new_ w4 (w4.heap.size) 77 #[.int .i64 x.nx, .int .i64 x.ny] (by simp)).below hb5
              obtain ⟨ata_5, atb_5⟩ := (at_5).two
              have z_5 : (w4.alloc (.cells #[.int .i64 x.nx, .int .i64 x.ny] 77)).heap.size ≤ w5.heap.size := hb5.size
              simp only [World.size_alloc] at z_5
              have B_5 := ((B_4).alloc (by first | omega | (simp; omega) | simp) (.cells #[.int .i64 x.nx, .int .i64 x.ny] 77)).trans (hb5.mono (by first | omega | (simp; omega) | simp))
              have hB5 := hB.trans (((B_5)).mono (by omega))
              obtain ⟨pa_5, pb_5, pc_5⟩ := ((hp_5)).three
              clear pa_4 pb_4 pc_4 ov un oc uc hp hh hr ov_4 un_4 oc_4 uc_4 hp_4 hh_4 hr_4 x_4 xa_4 xb_4 xc_4 xd_4
              cases hcr : crossB wd ht xs x.nx x.ny
              · have HR1 : Hid (∀ b, rowD wd ht xs b (i : Int) (toD wd ht xs b i) (orb.take (m + 1)) = rowD wd ht xs b (i : Int) (toD wd ht xs b i) (orb.take m)) := hide (fun b => by rw [HRT.out b, putD_no hcr])
                go_wp2_with fail
                go_roundw
                case rel => exact ⟨m + 1, by omega, by go_num, by rw [HR1.out true]; exact ov_5, by rw [HR1.out false]; exact un_5, by rw [HR1.out true]; exact oc_5, by rw [HR1.out false]; exact uc_5, hp_5, hh_5, hr_5, by omega, hB5⟩
                case measure => simp [intOf]; omega
              · have hil := HIL.out hcr
                have H3 := hide (And.intro hp_5 (And.intro x_5 at_5))
                have hB5h := hide hB5
                go_upto_region 13 with fail
                go_cut [18, 19] (fun s18 s19 wx => ∃ G, s18 = .int .i64 ((idxW wd xs x : Nat) : Int) ∧ s19 = .pointer (some ⟨G, 0, none⟩) ∧ w5.heap.size ≤ G ∧ Bx wx G 79 #[.int .i64 x.nx, .int .i64 x.ny, .int .i64 x.dx, .int .i64 x.dy] ∧ Below w5.heap.size w5 wx)
                case first =>
                  have C0 : Below w5.heap.size w5 w5.drew := (Below.refl _ _).drew
                  have keepS : Hid (∀ W, Below w5.heap.size w5 W → (W.cell? ⟨w.heap.size, 0, none⟩ = some (.int .i64 wd) ∧ W.cell? ⟨w.heap.size, 1, none⟩ = some (.int .i64 ht) ∧ W.cell? ⟨w.heap.size, 2, none⟩ = some (.slice A xs.length c)) ∧ (W.cell? ⟨w4.heap.size, 0, none⟩ = some (.int .i64 x.nx) ∧ W.cell? ⟨w4.heap.size, 1, none⟩ = some (.int .i64 x.ny)) ∧ (W.cell? ⟨wr.heap.size, 0, none⟩ = some (.int .i64 x.x) ∧ W.cell? ⟨wr.heap.size, 1, none⟩ = some (.int .i64 x.y) ∧ W.cell? ⟨wr.heap.size, 2, none⟩ = some (.int .i64 x.dx) ∧ W.cell? ⟨wr.heap.size, 3, none⟩ = some (.int .i64 x.dy))) := hide fun W hW => ⟨(H3.out.1.below hW).three, (H3.out.2.2.below hW).two, (H3.out.2.1.below hW).four⟩
                  have hz5 := hB5.size
                  clear ov_5 un_5 oc_5 uc_5 hp_5 hh_5 hr_5 x_5 at_5 hB hzB HRT
                  go_region_held3 (fun w' => (w'.cell? ⟨w.heap.size, 0, none⟩ = some (.int .i64 wd) ∧ w'.cell? ⟨w.heap.size, 1, none⟩ = some (.int .i64 ht) ∧ w'.cell? ⟨w.heap.size, 2, none⟩ = some (.slice A xs.length c)) ∧ (w'.cell? ⟨w4.heap.size, 0, none⟩ = some (.int .i64 x.nx) ∧ w'.cell? ⟨w4.heap.size, 1, none⟩ = some (.int .i64 x.ny)) ∧ (w'.cell? ⟨wr.heap.size, 0, none⟩ = some (.int .i64 x.x) ∧ w'.cell? ⟨wr.heap.size, 1, none⟩ = some (.int .i64 x.y) ∧ w'.cell? ⟨wr.heap.size, 2, none⟩ = some (.int .i64 x.dx) ∧ w'.cell? ⟨wr.heap.size, 3, none⟩ = some (.int .i64 x.dy)))
                    (exact keepS.out _ (by first | exact CX | exact CX.alloc (Below.size CX) _ | exact C0 | exact C0.alloc (Below.size C0) _ | exact below_put4 (C0.alloc (Below.size C0) _) (Nat.le_refl _) | exact below_put4 CX (Nat.le_refl _)))
                    (first | (go_at_call 80; refine (HIX.out hcr _ (hB5h.out.trans (Below.mono (by first | exact C0 | exact C0.alloc (Below.size C0) _ | exact below_put4 (C0.alloc (Below.size C0) _) (Nat.le_refl _)) hz5))).mono ?_; rintro e wq ⟨rfl, hq⟩; have CX : Below w5.heap.size w5 wq := Below.trans (by first | exact C0 | exact C0.alloc (Below.size C0) _ | exact below_put4 (C0.alloc (Below.size C0) _) (Nat.le_refl _)) (hq.mono (by first | exact (Below.size C0) | exact (C0.alloc (Below.size C0) _).size | (simp; omega))); (try (have bx := (Bx.new _ _ _).below hq; (try simp only [World.size_drew] at bx); obtain ⟨ba, bb, bc, bd⟩ := bx.four; have fa := bx.frozen 0; have fb := bx.frozen 1; have fc := bx.frozen 2; have fd := bx.frozen 3)); (try (have bx := ((Bx.new _ _ _).drew).below hq; obtain ⟨ba, bb, bc, bd⟩ := bx.four; have fa := bx.frozen 0; have fb := bx.frozen 1; have fc := bx.frozen 2; have fd := bx.frozen 3))) | fail)
                  all_goals go_wp2_with fail
                  all_goals go_meet
                  · have hb7 : Bx (wq.alloc (.cells #[.int .i64 x.nx, .int .i64 x.ny, .int .i64 x.dx, .int .i64 x.dy] 79)) wq.heap.size 79 #[.int .i64 x.nx, .int .i64 x.ny, .int .i64 x.dx, .int .i64 x.dy] := Bx.new _ _ _
                    have hb8 := CX.alloc (Below.size CX) (.cells #[.int .i64 x.nx, .int .i64 x.ny, .int .i64 x.dx, .int .i64 x.dy] 79)
                    exact ⟨wq.heap.size, rfl, rfl, Below.size CX, hb7, hb8⟩
                  · have hb7 := bx.put4 (u0 := .int .i64 x.nx) (u1 := .int .i64 x.ny) (u2 := .int .i64 x.dx) (u3 := .int .i64 x.dy)
                    have hb8 := below_put4 (b := w5.heap.size) (o0 := 0) (o1 := 1) (o2 := 2) (o3 := 3) (u0 := .int .i64 x.nx) (u1 := .int .i64 x.ny) (u2 := .int .i64 x.dx) (u3 := .int .i64 x.dy) CX (Nat.le_refl _)
                    exact ⟨w5.heap.size, rfl, rfl, Nat.le_refl _, hb7, hb8⟩
                case rest =>
                  obtain ⟨G, rfl, rfl, hG, hg5, hb6⟩ := hcut
                  obtain ⟨w6, rfl⟩ : ∃ w6 : World, w6 = wc := ⟨_, rfl⟩
                  have C0 : Below w6.heap.size w6 w6.drew := (Below.refl _ _).drew
                  have hx6 := x_5.below hb6
                  have hat6 := at_5.below hb6
                  have H6 := hide (And.intro hx6 hat6)
                  have keepS : Hid (∀ W, Below w6.heap.size w6 W → (W.cell? ⟨w4.heap.size, 0, none⟩ = some (.int .i64 x.nx) ∧ W.cell? ⟨w4.heap.size, 1, none⟩ = some (.int .i64 x.ny)) ∧ (W.cell? ⟨wr.heap.size, 0, none⟩ = some (.int .i64 x.x) ∧ W.cell? ⟨wr.heap.size, 1, none⟩ = some (.int .i64 x.y) ∧ W.cell? ⟨wr.heap.size, 2, none⟩ = some (.int .i64 x.dx) ∧ W.cell? ⟨wr.heap.size, 3, none⟩ = some (.int .i64 x.dy))) := hide fun W hW => ⟨(H6.out.2.below hW).two, (H6.out.1.below hW).four⟩
                  have hdx := b5
                  have hdy := b6
                  have hpr := prod_pm hok.1 hok.2.1
                  have HEQ : Hid ((x.dx * x.dy == slopeI x.nx) = overB x) := hide (by unfold overB; exact Bool.beq_comm)
                  have hB6 := hB5.trans (hb6.mono hB5.size)
                  have z6 := hb6.size
                  have ov6 := ov_5.below hb6
                  have un6 := un_5.below hb6
                  have oc6 := oc_5.below hb6
                  have uc6 := uc_5.below hb6
                  have hp6 := hp_5.below hb6
                  have hh6 := hh_5.below hb6
                  have hr6 := hr_5.below hb6
                  clear ov_5 un_5 oc_5 uc_5 hp_5 hh_5 hr_5 x_5 at_5 hB hzB hb6 hx6 hat6
                  have hbm : IntKind.i64.wrap (x.dx * x.dy) = x.dx * x.dy := by rw [IntKind.wrap_i64]; omega
                  go_wp2_with fail
                  go_region_held3 (fun w' => (w'.cell? ⟨w4.heap.size, 0, none⟩ = some (.int .i64 x.nx) ∧ w'.cell? ⟨w4.heap.size, 1, none⟩ = some (.int .i64 x.ny)) ∧ (w'.cell? ⟨wr.heap.size, 0, none⟩ = some (.int .i64 x.x) ∧ w'.cell? ⟨wr.heap.size, 1, none⟩ = some (.int .i64 x.y) ∧ w'.cell? ⟨wr.heap.size, 2, none⟩ = some (.int .i64 x.dx) ∧ w'.cell? ⟨wr.heap.size, 3, none⟩ = some (.int .i64 x.dy)))
                    (exact keepS.out _ (by first | exact CX | exact C0))
                    (first | (go_at_call 81; refine (HOV.out _).mono ?_; rintro e wq ⟨rfl, hq⟩; have CX : Below w6.heap.size w6 wq := Below.trans C0 (hq.mono (Below.size C0))) | fail)
                  have hb9 := CX
                  obtain ⟨w9, rfl⟩ : ∃ w9 : World, w9 = wq := ⟨_, rfl⟩
                  have hg9 := hg5.below hb9
                  have hB9 := hB6.trans (hb9.mono hB6.size)
                  have z9 := hb9.size
                  have ov9 := ov6.below hb9
                  have un9 := un6.below hb9
                  have oc9 := oc6.below hb9
                  have uc9 := uc6.below hb9
                  have hp9 := hp6.below hb9
                  have hh9 := hh6.below hb9
                  have hr9 := hr6.below hb9
                  obtain ⟨ga_9, gb_9, gc_9, gd_9⟩ := hg9.four
                  clear ov6 un6 oc6 uc6 hp6 hh6 hr6 hg5 C0
                  rw [HEQ.out]
                  cases hov : overB x
                  ·
                    have HR1 : Hid (rowD wd ht xs false (i : Int) (toD wd ht xs false i) (orb.take (m + 1)) = ((rowD wd ht xs false (i : Int) (toD wd ht xs false i) (orb.take m)).1.set (idxW wd xs x) ⟨x.nx, x.ny, x.dx, x.dy⟩, (rowD wd ht xs false (i : Int) (toD wd ht xs false i) (orb.take m)).2.set (idxW wd xs x) (i : Int))) := hide (by rw [HRT.out false, putD, if_pos ⟨hcr, hov⟩])
                    have HR2 : Hid (rowD wd ht xs true (i : Int) (toD wd ht xs true i) (orb.take (m + 1)) = rowD wd ht xs true (i : Int) (toD wd ht xs true i) (orb.take m)) := hide (by rw [HRT.out true, putD_other (by rw [hov]; decide)])
                    obtain ⟨g, a', hA, hgb, hgs, _, ra_c, rb_c, rc_c, rd_c, hgf⟩ := un9.wk (k := idxW wd xs x) (by rw [(HRL.out false).1]; exact hil)
                    injection hA with hA; injection hA with hA; subst hA
                    have me10 := un9.putWk (k := idxW wd xs x) (by rw [(HRL.out false).1]; exact hil) x.nx x.ny x.dx x.dy
                    have ot10 := ov9.far4 (b := g2) (o0 := idxW wd xs x * 4) (o1 := idxW wd xs x * 4 + 1) (o2 := idxW wd xs x * 4 + 2) (o3 := idxW wd xs x * 4 + 3) (u0 := .int .i64 x.nx) (u1 := .int .i64 x.ny) (u2 := .int .i64 x.dx) (u3 := .int .i64 x.dy) (blk_ne (by omega))
                    have mi10 := uc9.far4 (b := g2) (o0 := idxW wd xs x * 4) (o1 := idxW wd xs x * 4 + 1) (o2 := idxW wd xs x * 4 + 2) (o3 := idxW wd xs x * 4 + 3) (u0 := .int .i64 x.nx) (u1 := .int .i64 x.ny) (u2 := .int .i64 x.dx) (u3 := .int .i64 x.dy) (blk_ne (by omega))
                    have oi10 := oc9.far4 (b := g2) (o0 := idxW wd xs x * 4) (o1 := idxW wd xs x * 4 + 1) (o2 := idxW wd xs x * 4 + 2) (o3 := idxW wd xs x * 4 + 3) (u0 := .int .i64 x.nx) (u1 := .int .i64 x.ny) (u2 := .int .i64 x.dx) (u3 := .int .i64 x.dy) (blk_ne (by omega))
                    have hp10 := hp9.far4 (b := g2) (o0 := idxW wd xs x * 4) (o1 := idxW wd xs x * 4 + 1) (o2 := idxW wd xs x * 4 + 2) (o3 := idxW wd xs x * 4 + 3) (u0 := .int .i64 x.nx) (u1 := .int .i64 x.ny) (u2 := .int .i64 x.dx) (u3 := .int .i64 x.dy) (by omega)
                    have hh10 := hh9.far4 (b := g2) (o0 := idxW wd xs x * 4) (o1 := idxW wd xs x * 4 + 1) (o2 := idxW wd xs x * 4 + 2) (o3 := idxW wd xs x * 4 + 3) (u0 := .int .i64 x.nx) (u1 := .int .i64 x.ny) (u2 := .int .i64 x.dx) (u3 := .int .i64 x.dy) (fun e => by have := (hh9.ge e).1; omega)
                    have hr10 := hr9.far4 (b := g2) (o0 := idxW wd xs x * 4) (o1 := idxW wd xs x * 4 + 1) (o2 := idxW wd xs x * 4 + 2) (o3 := idxW wd xs x * 4 + 3) (u0 := .int .i64 x.nx) (u1 := .int .i64 x.ny) (u2 := .int .i64 x.dx) (u3 := .int .i64 x.dy) (by omega)
                    have hB10 := below_put4 (b := g2) (o0 := idxW wd xs x * 4) (o1 := idxW wd xs x * 4 + 1) (o2 := idxW wd xs x * 4 + 2) (o3 := idxW wd xs x * 4 + 3) (u0 := .int .i64 x.nx) (u1 := .int .i64 x.ny) (u2 := .int .i64 x.dx) (u3 := .int .i64 x.dy) hB9 (by omega)
                    obtain ⟨gi, vi, hA, hgib, hgis, hvi, hgic, hgif, hst⟩ := mi10.at_ (k := idxW wd xs x) (by rw [(HRL.out false).2]; exact hil)
                    injection hA with hA; injection hA with hA; subst hA
                    have hs10 := hst (i : Int)
                    have ME := hide (me10.grownInts hs10.2 mi10 (by decide))
                    have OT := hide (ot10.grownInts hs10.2 mi10 (by decide))
                    have MI := hide hs10.1
                    have OI := hide (oi10.grown hs10.2 (.inr (blk_ne (by omega))))
                    have HP10 := hide (hp10.grownOwn mi10 (by decide) hs10.2)
                    have HH := hide (hh10.grownInts hs10.2 mi10 (by decide))
                    have HRW := hide (hr10.grownOther hs10.2 (intE_own.2 mi10) (by decide))
                    have HBB := hide (below_mark hB10 mi10 hs10.2 (Nat.le_refl _) hB10.size)
                    have rf0 := hgf (idxW wd xs x * 4)
                    have rf1 := hgf (idxW wd xs x * 4 + 1)
                    have rf2 := hgf (idxW wd xs x * 4 + 2)
                    have rf3 := hgf (idxW wd xs x * 4 + 3)
                    clear hst hs10 me10 ot10 mi10 oi10 hp10 hh10 hr10 hB10 hgf hvi ov9 un9 oc9 uc9 hh9 hr9 hB9 hgb hgs hgib hgis
                    go_wp2_with fail
                    go_roundw
                    case rel => exact ⟨m + 1, by omega, by go_num, by rw [HR2.out]; exact OT.out, by rw [HR1.out]; exact ME.out, by rw [HR2.out]; exact OI.out, by rw [HR1.out]; exact MI.out, HP10.out, HH.out, HRW.out, by simp; omega, HBB.out⟩
                    case measure => simp [intOf]; omega
                  ·
                    have HR1 : Hid (rowD wd ht xs true (i : Int) (toD wd ht xs true i) (orb.take (m + 1)) = ((rowD wd ht xs true (i : Int) (toD wd ht xs true i) (orb.take m)).1.set (idxW wd xs x) ⟨x.nx, x.ny, x.dx, x.dy⟩, (rowD wd ht xs true (i : Int) (toD wd ht xs true i) (orb.take m)).2.set (idxW wd xs x) (i : Int))) := hide (by rw [HRT.out true, putD, if_pos ⟨hcr, hov⟩])
                    have HR2 : Hid (rowD wd ht xs false (i : Int) (toD wd ht xs false i) (orb.take (m + 1)) = rowD wd ht xs false (i : Int) (toD wd ht xs false i) (orb.take m)) := hide (by rw [HRT.out false, putD_other (by rw [hov]; decide)])
                    obtain ⟨g, a', hA, hgb, hgs, _, ra_c, rb_c, rc_c, rd_c, hgf⟩ := ov9.wk (k := idxW wd xs x) (by rw [(HRL.out true).1]; exact hil)
                    injection hA with hA; injection hA with hA; subst hA
                    have me10 := ov9.putWk (k := idxW wd xs x) (by rw [(HRL.out true).1]; exact hil) x.nx x.ny x.dx x.dy
                    have ot10 := un9.far4 (b := g1) (o0 := idxW wd xs x * 4) (o1 := idxW wd xs x * 4 + 1) (o2 := idxW wd xs x * 4 + 2) (o3 := idxW wd xs x * 4 + 3) (u0 := .int .i64 x.nx) (u1 := .int .i64 x.ny) (u2 := .int .i64 x.dx) (u3 := .int .i64 x.dy) (blk_ne (by omega))
                    have mi10 := oc9.far4 (b := g1) (o0 := idxW wd xs x * 4) (o1 := idxW wd xs x * 4 + 1) (o2 := idxW wd xs x * 4 + 2) (o3 := idxW wd xs x * 4 + 3) (u0 := .int .i64 x.nx) (u1 := .int .i64 x.ny) (u2 := .int .i64 x.dx) (u3 := .int .i64 x.dy) (blk_ne (by omega))
                    have oi10 := uc9.far4 (b := g1) (o0 := idxW wd xs x * 4) (o1 := idxW wd xs x * 4 + 1) (o2 := idxW wd xs x * 4 + 2) (o3 := idxW wd xs x * 4 + 3) (u0 := .int .i64 x.nx) (u1 := .int .i64 x.ny) (u2 := .int .i64 x.dx) (u3 := .int .i64 x.dy) (blk_ne (by omega))
                    have hp10 := hp9.far4 (b := g1) (o0 := idxW wd xs x * 4) (o1 := idxW wd xs x * 4 + 1) (o2 := idxW wd xs x * 4 + 2) (o3 := idxW wd xs x * 4 + 3) (u0 := .int .i64 x.nx) (u1 := .int .i64 x.ny) (u2 := .int .i64 x.dx) (u3 := .int .i64 x.dy) (by omega)
                    have hh10 := hh9.far4 (b := g1) (o0 := idxW wd xs x * 4) (o1 := idxW wd xs x * 4 + 1) (o2 := idxW wd xs x * 4 + 2) (o3 := idxW wd xs x * 4 + 3) (u0 := .int .i64 x.nx) (u1 := .int .i64 x.ny) (u2 := .int .i64 x.dx) (u3 := .int .i64 x.dy) (fun e => by have := (hh9.ge e).1; omega)
                    have hr10 := hr9.far4 (b := g1) (o0 := idxW wd xs x * 4) (o1 := idxW wd xs x * 4 + 1) (o2 := idxW wd xs x * 4 + 2) (o3 := idxW wd xs x * 4 + 3) (u0 := .int .i64 x.nx) (u1 := .int .i64 x.ny) (u2 := .int .i64 x.dx) (u3 := .int .i64 x.dy) (by omega)
                    have hB10 := below_put4 (b := g1) (o0 := idxW wd xs x * 4) (o1 := idxW wd xs x * 4 + 1) (o2 := idxW wd xs x * 4 + 2) (o3 := idxW wd xs x * 4 + 3) (u0 := .int .i64 x.nx) (u1 := .int .i64 x.ny) (u2 := .int .i64 x.dx) (u3 := .int .i64 x.dy) hB9 (by omega)
                    obtain ⟨gi, vi, hA, hgib, hgis, hvi, hgic, hgif, hst⟩ := mi10.at_ (k := idxW wd xs x) (by rw [(HRL.out true).2]; exact hil)
                    injection hA with hA; injection hA with hA; subst hA
                    have hs10 := hst (i : Int)
                    have ME := hide (me10.grownInts hs10.2 mi10 (by decide))
                    have OT := hide (ot10.grownInts hs10.2 mi10 (by decide))
                    have MI := hide hs10.1
                    have OI := hide (oi10.grown hs10.2 (.inr (blk_ne (by omega))))
                    have HP10 := hide (hp10.grownOwn mi10 (by decide) hs10.2)
                    have HH := hide (hh10.grownInts hs10.2 mi10 (by decide))
                    have HRW := hide (hr10.grownOther hs10.2 (intE_own.2 mi10) (by decide))
                    have HBB := hide (below_mark hB10 mi10 hs10.2 (Nat.le_refl _) hB10.size)
                    have rf0 := hgf (idxW wd xs x * 4)
                    have rf1 := hgf (idxW wd xs x * 4 + 1)
                    have rf2 := hgf (idxW wd xs x * 4 + 2)
                    have rf3 := hgf (idxW wd xs x * 4 + 3)
                    clear hst hs10 me10 ot10 mi10 oi10 hp10 hh10 hr10 hB10 hgf hvi ov9 un9 oc9 uc9 hh9 hr9 hB9 hgb hgs hgib hgis
                    go_wp2_with fail
                    go_roundw
                    case rel => exact ⟨m + 1, by omega, by go_num, by rw [HR1.out]; exact ME.out, by rw [HR2.out]; exact OT.out, by rw [HR1.out]; exact MI.out, by rw [HR2.out]; exact OI.out, HP10.out, HH.out, HRW.out, by simp; omega, HBB.out⟩
                    case measure => simp [intOf]; omega
            · obtain rfl : P = m := by omega
              have HZP : Hid (orb.take P = orb) := hide (by rw [HPL.out]; exact List.take_of_length_le (Nat.le_refl _))
              rw [HZP.out] at ov un oc uc
              clear hlt2
              go_wp2_with fail
              go_roundw
              case rel => exact ⟨i + 1, by omega, by go_num, by rw [HNT.out true]; exact ov, by rw [HNT.out false]; exact un, by rw [HNT.out true]; exact oc, by rw [HNT.out false]; exact uc, hp, hh, hr, by omega, hB⟩
              case measure => simp [intOf]; omega
        · obtain rfl : K = i := by omega
          have HD : Hid (∀ b, dirL wd ht xs b = (toD wd ht xs b K).1 ∧ dirC wd ht xs b = (toD wd ht xs b K).2) := hide (fun b => by unfold dirL dirC; rw [HK.out]; exact ⟨rfl, rfl⟩)
          have HDL : Hid (∀ b, (dirL wd ht xs b).length = n ∧ (dirC wd ht xs b).length = n) := hide (fun b => by rw [(HD.out b).1, (HD.out b).2, (toD_len _).1, (toD_len _).2, HNN.out]; exact ⟨rfl, rfl⟩)
          have hiK : ¬ K < hs.length := by rw [HHK.out]; omega
          clear hlt
          go_wp2_with fail
          refine bodyPost_ret (v := .tuple #[.slice (some ⟨g1, 0, none⟩) n n, .slice (some ⟨g2, 0, none⟩) n n, .slice (some ⟨g3, 0, none⟩) n n, .slice (some ⟨g4, 0, none⟩) n n]) (by simp [results, Tryz.results53, go_sem]) rfl ?_
          exact ⟨some ⟨g1, 0, none⟩, n, some ⟨g2, 0, none⟩, n, some ⟨g3, 0, none⟩, n, some ⟨g4, 0, none⟩, n, by rw [(HDL.out true).1, (HDL.out false).1, (HDL.out true).2, (HDL.out false).2], by rw [(HD.out true).1]; exact ov, by rw [(HD.out false).1]; exact un, by rw [(HD.out true).2]; exact oc, by rw [(HD.out false).2]; exact uc, hB⟩
end Go.Proofs.YtjlifbdaieblpaaGreat
