/-
  Contracts of the reference over a valid panel: numbers of curves, of breaks, of the crossings of two curves. Conditions: a valid panel.
-/
import Derived.Test.YtmjeafklafjakaaSm3
import Derived.Test.YtmjeafklafjakaaRet
import Derived.Test.YtmjeafklafjakaaTr17
import Derived.Test.YtmjeafklafjakaaParSum
namespace Go.Proofs.Ytmjeafklafjakaa
open Go.RowKit
set_option linter.unusedVariables false

set_option maxHeartbeats 2000000 in
theorem specCountCurves_ok (wd ht : Int) (A : Option Addr) (c : Nat) (xs : List Int) (w : World) (hxs : RI w A xs) (hv : vldPan wd ht xs = true) (hn : xs.length ≤ 1048576) :
    Calls Try.prog 11 #[.agg #[.int .i64 wd, .int .i64 ht, .slice A xs.length c]] w (RetV w (.tuple #[.int .i64 (cvN wd ht xs : Int), .int .i64 0])) := by
  obtain ⟨hs, hl⟩ := vld_sz hv
  have hcn := cvN_le hv
  have hpa : PA (w.alloc (.cells #[.int .i64 wd, .int .i64 ht, .slice A xs.length c] 26)) w.heap.size wd ht A c xs := ⟨(Bx.new_ w (w.heap.size) 26 #[.int .i64 wd, .int .i64 ht, .slice A xs.length c] (by simp)), hxs.below ((Below.refl w.heap.size w).alloc (by first | omega | (simp; omega) | simp) (.cells #[.int .i64 wd, .int .i64 ht, .slice A xs.length c] 26))⟩
  have HOK := hide (RetQ.v (l02Ok_any w.heap.size wd ht A c xs (w.alloc (.cells #[.int .i64 wd, .int .i64 ht, .slice A xs.length c] 26)) hpa.c0 hpa.c1 hpa.c2 hpa.rd hn))
  have HA : Hid (∀ (W : World), Below ((w.alloc (.cells #[.int .i64 wd, .int .i64 ht, .slice A xs.length c] 26))).heap.size (w.alloc (.cells #[.int .i64 wd, .int .i64 ht, .slice A xs.length c] 26)) W → Calls Try.prog 31 #[.pointer (some ⟨w.heap.size, 0, none⟩)] W (RetV W (.int .i64 (cvN wd ht xs : Int)))) := hide (fun (W : World) (hb : Below ((w.alloc (.cells #[.int .i64 wd, .int .i64 ht, .slice A xs.length c] 26))).heap.size (w.alloc (.cells #[.int .i64 wd, .int .i64 ht, .slice A xs.length c] 26)) W) => l04Count_any w.heap.size wd ht A c xs W (hpa.below hb) hs hl)
  rw [hv] at HOK
  obtain ⟨N, hN⟩ : ∃ N, N = cvN wd ht xs := ⟨_, rfl⟩
  rw [← hN] at HA hcn ⊢
  clear hpa hN
  go_enter Try.func11, Try.ntmps11
  go_wp2_with fail
  refine HOK.out.mono ?_
  rintro e w1 ⟨rfl, hb1⟩
  have p_1 := (Bx.new_ w (w.heap.size) 26 #[.int .i64 wd, .int .i64 ht, .slice A xs.length c] (by simp)).below hb1
  obtain ⟨pa_1, pb_1, pc_1⟩ := (p_1).three
  have z_1 : (w.alloc (.cells #[.int .i64 wd, .int .i64 ht, .slice A xs.length c] 26)).heap.size ≤ w1.heap.size := hb1.size
  simp only [World.size_alloc] at z_1
  have B_1 := ((Below.refl w.heap.size w).alloc (by first | omega | (simp; omega) | simp) (.cells #[.int .i64 wd, .int .i64 ht, .slice A xs.length c] 26)).trans (hb1.mono (by first | omega | (simp; omega) | simp))
  go_wp2_with fail
  refine (HA.out _ hb1).mono ?_
  rintro e w2 ⟨rfl, hb2⟩
  have p_2 := (p_1).below hb2
  obtain ⟨pa_2, pb_2, pc_2⟩ := (p_2).three
  have z_2 : w1.heap.size ≤ w2.heap.size := hb2.size
  have B_2 := (B_1).trans (hb2.mono (by first | omega | (simp; omega) | simp))
  go_wp2_with fail
  go_ret2
  exact ⟨rfl, (B_2)⟩
set_option maxHeartbeats 4000000 in
theorem specCountBreaks_ok (wd ht : Int) (A : Option Addr) (c : Nat) (xs : List Int) (w : World) (hxs : RI w A xs) (hv : vldPan wd ht xs = true) (hn : xs.length ≤ 1048576) :
    Calls Try.prog 12 #[.agg #[.int .i64 wd, .int .i64 ht, .slice A xs.length c], .int .i64 0] w (RetV w (.tuple #[.int .i64 ((zTo xs xs.length).length : Int), .int .i64 0])) := by
  have HK : Hid (∀ W : World, Calls Try.prog 32 #[.int .i64 0] W fun e w' => e = .returned (.bool true) ∧ W = w') := hide fun W => by
    go_enter Try.func32, Try.ntmps32
    go_wp2_with (go_at_call 39; refine (l00In_any _ _ _ _).mono ?_; rintro e w' ⟨rfl, rfl⟩; rw [show inB 0 0 2 = true from rfl])
    go_ret
    exact ⟨rfl, rfl⟩
  have hpa : PA (w.alloc (.cells #[.int .i64 wd, .int .i64 ht, .slice A xs.length c] 26)) w.heap.size wd ht A c xs := ⟨(Bx.new_ w (w.heap.size) 26 #[.int .i64 wd, .int .i64 ht, .slice A xs.length c] (by simp)), hxs.below ((Below.refl w.heap.size w).alloc (by first | omega | (simp; omega) | simp) (.cells #[.int .i64 wd, .int .i64 ht, .slice A xs.length c] 26))⟩
  have HOK := hide (RetQ.v (l02Ok_any w.heap.size wd ht A c xs (w.alloc (.cells #[.int .i64 wd, .int .i64 ht, .slice A xs.length c] 26)) hpa.c0 hpa.c1 hpa.c2 hpa.rd hn))
  have HPA := hide hpa
  rw [hv] at HOK
  clear hpa
  go_enter Try.func12, Try.ntmps12
  go_wp2_with fail
  refine HOK.out.mono ?_
  rintro e w1 ⟨rfl, hb1⟩
  have hp1 := HPA.out.below hb1
  have c2 := hp1.c2
  have rd := hp1.rd
  have p_1 := (Bx.new_ w (w.heap.size) 26 #[.int .i64 wd, .int .i64 ht, .slice A xs.length c] (by simp)).below hb1
  obtain ⟨pa_1, pb_1, pc_1⟩ := (p_1).three
  have z_1 : (w.alloc (.cells #[.int .i64 wd, .int .i64 ht, .slice A xs.length c] 26)).heap.size ≤ w1.heap.size := hb1.size
  simp only [World.size_alloc] at z_1
  have B_1 := ((Below.refl w.heap.size w).alloc (by first | omega | (simp; omega) | simp) (.cells #[.int .i64 wd, .int .i64 ht, .slice A xs.length c] 26)).trans (hb1.mono (by first | omega | (simp; omega) | simp))
  clear hb1
  go_wp2_with (go_at_call 32; refine (HK.out _).mono ?_; rintro e w' ⟨rfl, rfl⟩)
  go_loop [6, 7] (fun n i => ∃ (k m : Nat), k ≤ xs.length ∧ i = .int .i64 (k : Int) ∧ n = .int .i64 (m : Int) ∧ Hid (m = (zTo xs k).length)) (fun _ i => xs.length - (intOf i).toNat)
  case atStart => exact ⟨0, 0, Nat.zero_le _, rfl, rfl, hide rfl⟩
  case round =>
    obtain ⟨k, m, hk, rfl, rfl, hm⟩ := hrel
    have hmk : m ≤ k := by rw [hm.out]; exact zTo_len _ _
    by_cases hlt : k < xs.length
    · obtain ⟨b, off, x, rfl, hb, hx, hcx⟩ := rd.at_ hlt
      by_cases h0 : x = 0
      · have HN : Hid (m + 1 = (zTo xs (k + 1)).length) := hide (by rw [zTo_yes hx h0, List.length_append, ← hm.out]; rfl)
        have e0 : (x == 0) = true := eqt h0
        clear hx h0
        go_wp2_with fail
        go_round
        case rel => exact ⟨k + 1, m + 1, by omega, by go_num, by go_num, HN⟩
        case measure => simp [intOf]; omega
      · have HN : Hid (m = (zTo xs (k + 1)).length) := hide (by rw [zTo_no hx h0]; exact hm.out)
        have e0 : (x == 0) = false := eqf h0
        clear hx h0
        go_wp2_with fail
        go_round
        case rel => exact ⟨k + 1, m, by omega, by go_num, rfl, HN⟩
        case measure => simp [intOf]; omega
    · have e1 : k = xs.length := by omega
      have HE : Hid (m = (zTo xs xs.length).length) := hide (by rw [hm.out, e1])
      clear e1
      go_wp2_with fail
      go_ret2
      rw [← HE.out]
      exact ⟨rfl, (B_1)⟩
set_option maxHeartbeats 4000000 in
theorem l04CodeOf_ok (b0 : Nat) (wd ht : Int) (A : Option Addr) (c : Nat) (xs : List Int) (k : Nat) (w : World) (hp : PA w b0 wd ht A c xs) (hv : vldPan wd ht xs = true) (hn : xs.length ≤ 1048576) (hk : k < cvN wd ht xs) :
    Calls Try.prog 36 #[.pointer (some ⟨b0, 0, none⟩), .int .i64 (k : Int)] w (RetIC w (ownL wd ht xs) 0) := by
  have HOK := hide (RetQ.v (l02Ok_any b0 wd ht A c xs w hp.c0 hp.c1 hp.c2 hp.rd hn))
  obtain ⟨hs, hl⟩ := vld_sz hv
  have hcn := cvN_le hv
  have HALL := hide (fun (W : World) (h : PA W b0 wd ht A c xs) => l04All_any b0 wd ht A c xs W h hs hl)
  have HCN : Hid ((curL wd ht xs).length = cvN wd ht xs) := hide rfl
  have HI := hide (fun W : World => l00In_any (k : Int) 0 ((cvN wd ht xs : Int) - 1) W)
  rw [inB_true.2 (show (0 : Int) ≤ k ∧ (k : Int) ≤ (cvN wd ht xs : Int) - 1 by omega)] at HI
  rw [hv] at HOK
  go_enter Try.func36, Try.ntmps36
  go_wp2_with fail
  refine HOK.out.mono ?_
  rintro e w1 ⟨rfl, hb1⟩
  go_wp2_with fail
  refine (HALL.out _ (hp.below hb1)).mono ?_
  rintro e w2 ⟨A1, c1, B1, d1, rfl, own, hb2⟩
  have hB2 := hb1.trans (hb2.mono hb1.size)
  have OWN := hide (own.mono hb1.size)
  rw [HCN.out]
  obtain ⟨N, hN⟩ : ∃ N, N = cvN wd ht xs := ⟨_, rfl⟩
  rw [← hN] at HI hcn ⊢
  clear own hN hk
  go_wp2_with (go_at_call 39; refine (HI.out _).mono ?_; rintro e w' ⟨rfl, rfl⟩)
  go_ret2
  exact ⟨_, _, rfl, OWN.out, hB2⟩
/-- the curves round a point: of those to the upper left, upper right, lower left and lower right -/
noncomputable def meetA (wd ht : Int) (xs : List Int) (x y : Int) (k : Nat) : Int := (ownL wd ht xs).getD (segN ht ⟨x, y, (k : Int) % 2 * 2 - 1, (k : Int) / 2 * 2 - 1⟩) 0
noncomputable def meetL (wd ht : Int) (xs : List Int) (x y : Int) (k : Nat) : List Int := (List.range k).map (meetA wd ht xs x y)
theorem meetL_next (wd ht : Int) (xs : List Int) (x y : Int) (k : Nat) : meetL wd ht xs x y (k + 1) = meetL wd ht xs x y k ++ [meetA wd ht xs x y k] := by
  unfold meetL
  rw [List.range_succ, List.map_append]
  rfl
theorem meetL_len (wd ht : Int) (xs : List Int) (x y : Int) (k : Nat) : (meetL wd ht xs x y k).length = k := by simp [meetL]
theorem meet_ok {wd ht x y : Int} (hs : Sz wd ht) (hon : OnP wd ht x y) (he : ¬ Edge wd ht x y) {k : Nat} (hk : k < 4) : OkW wd ht ⟨x, y, (k : Int) % 2 * 2 - 1, (k : Int) / 2 * 2 - 1⟩ := by
  have h2 := hon
  unfold OnP at hon
  unfold Edge at he
  refine ⟨by show (k : Int) % 2 * 2 - 1 = 1 ∨ (k : Int) % 2 * 2 - 1 = -1; omega, by show (k : Int) / 2 * 2 - 1 = 1 ∨ (k : Int) / 2 * 2 - 1 = -1; omega, h2, ?_⟩
  show OnP wd ht (x + ((k : Int) % 2 * 2 - 1)) (y + ((k : Int) / 2 * 2 - 1))
  unfold OnP
  omega
set_option maxHeartbeats 4000000 in
theorem l04Meet_ok (b0 : Nat) (wd ht x y : Int) (A B : Option Addr) (c d : Nat) (xs : List Int) (w : World) (hp : PA w b0 wd ht A c xs) (hs : Sz wd ht) (hon : OnP wd ht x y) (he : ¬ Edge wd ht x y) (ho : RI w B (ownL wd ht xs)) :
    Calls Try.prog 61 #[.pointer (some ⟨b0, 0, none⟩), .slice B (ownL wd ht xs).length d, .agg #[.int .i64 x, .int .i64 y]] w (RetI w (meetL wd ht xs x y 4)) := by
  have hol : (ownL wd ht xs).length = nSeg wd ht := (trInv_all (xs := xs) hs).len
  have hsg := nSeg_int hs
  have HSEG : Hid (∀ (k : Nat) (W : World), k < 4 → Below w.heap.size w W → Calls Try.prog 77 #[.pointer (some ⟨b0, 0, none⟩), .agg #[.int .i64 x, .int .i64 y, .int .i64 ((k : Int) % 2 * 2 - 1), .int .i64 ((k : Int) / 2 * 2 - 1)]] W (RetV W (.int .i64 ((segN ht ⟨x, y, (k : Int) % 2 * 2 - 1, (k : Int) / 2 * 2 - 1⟩ : Nat) : Int)))) := hide fun k W hk hb => by
    have h := l03Segment_any b0 wd ht A c xs ⟨x, y, (k : Int) % 2 * 2 - 1, (k : Int) / 2 * 2 - 1⟩ W (hp.below hb) hs (meet_ok hs hon he hk)
    rw [(segN_int hs (meet_ok hs hon he hk)).1]
    exact h
  have HLT : Hid (∀ k : Nat, k < 4 → segN ht ⟨x, y, (k : Int) % 2 * 2 - 1, (k : Int) / 2 * 2 - 1⟩ < (ownL wd ht xs).length) := hide fun k hk => by
    rw [hol]
    exact (segN_int hs (meet_ok hs hon he hk)).2
  have hbx : 0 ≤ x ∧ x ≤ 16 ∧ 0 ≤ y ∧ y ≤ 16 := by unfold OnP at hon; obtain ⟨s1, s2, s3, s4⟩ := hs; omega
  obtain ⟨os, hos⟩ : ∃ os, os = ownL wd ht xs := ⟨_, rfl⟩
  have HME : Hid (∀ k : Nat, meetA wd ht xs x y k = os.getD (segN ht ⟨x, y, (k : Int) % 2 * 2 - 1, (k : Int) / 2 * 2 - 1⟩) 0) := hide fun k => by rw [hos]; rfl
  have hosl : os.length ≤ 256 := by rw [hos, hol]; omega
  rw [← hos] at ho HLT ⊢
  clear hol hsg hos hon he hs
  have hat := ((Bx.new_ w (w.heap.size) 41 #[.int .i64 x, .int .i64 y] (by simp))).alloc (.cells #[] 2)
  have hB0 := (((Below.refl w.heap.size w).alloc (by first | omega | (simp; omega) | simp) (.cells #[.int .i64 x, .int .i64 y] 41))).alloc (by simp) (.cells #[] 2)
  have own0 : OwnI (((w.alloc (.cells #[.int .i64 x, .int .i64 y] 41))).alloc (.cells #[] 2)) (w.heap.size + 1) (some ⟨w.heap.size + 1, 0, none⟩) 0 [] := OwnI.empty_ (w.alloc (.cells #[.int .i64 x, .int .i64 y] 41)) _ (by simp) (by simp)
  go_enter Try.func61, Try.ntmps61
  go_wp2_with fail
  go_loopw [7, 8] (fun o i wr => ∃ (k : Nat) (A1 : Option Addr) (c1 : Nat) (zs : List Int), k ≤ 4 ∧ i = .int .i64 (k : Int) ∧ o = .slice A1 zs.length c1 ∧ Hid (zs = meetL wd ht xs x y k) ∧ zs.length ≤ k ∧ OwnI wr (w.heap.size + 1) A1 c1 zs ∧ Bx wr w.heap.size 41 #[.int .i64 x, .int .i64 y] ∧ Below w.heap.size w wr) (fun _ i _ => 4 - (intOf i).toNat)
  case atStart => exact ⟨0, _, 0, [], by omega, rfl, rfl, hide rfl, Nat.le_refl _, own0, hat, hB0⟩
  case round =>
    clear own0 hat hB0
    obtain ⟨k, A1, c1, zs, hk, rfl, rfl, hzs, hzl, own, hat, hB⟩ := hrel
    have hz := hB.size
    have hatl := hat.lt
    by_cases hlt : k < 4
    · obtain ⟨ata, atb⟩ := hat.two
      have t1 : Int.tmod (k : Int) 2 = (k : Int) % 2 := Int.tmod_eq_emod_of_nonneg (by omega)
      have t2 : Int.tdiv (k : Int) 2 = (k : Int) / 2 := Int.tdiv_eq_ediv_of_nonneg (by omega)
      have hm2 : 0 ≤ (k : Int) % 2 ∧ (k : Int) % 2 ≤ 1 := by omega
      have hd2 : 0 ≤ (k : Int) / 2 ∧ (k : Int) / 2 ≤ 1 := by omega
      have HS := hide (fun W => HSEG.out k W hlt)
      have hlt2 := HLT.out k hlt
      have HM2 := HME.out k
      obtain ⟨s, hs⟩ : ∃ s, s = segN ht ⟨x, y, (k : Int) % 2 * 2 - 1, (k : Int) / 2 * 2 - 1⟩ := ⟨_, rfl⟩
      rw [← hs] at HS hlt2 HM2
      have hsb : s ≤ 256 := by omega
      clear hs
      have HO := hide ho
      have oww := own.alloc (.cells #[.int .i64 x, .int .i64 y, .int .i64 ((k : Int) % 2 * 2 - 1), .int .i64 ((k : Int) / 2 * 2 - 1)] 45)
      have hww := Bx.new wr 45 #[.int .i64 x, .int .i64 y, .int .i64 ((k : Int) % 2 * 2 - 1), .int .i64 ((k : Int) / 2 * 2 - 1)]
      have haw := hat.alloc (.cells #[.int .i64 x, .int .i64 y, .int .i64 ((k : Int) % 2 * 2 - 1), .int .i64 ((k : Int) / 2 * 2 - 1)] 45)
      have hBw := hB.alloc hz (.cells #[.int .i64 x, .int .i64 y, .int .i64 ((k : Int) % 2 * 2 - 1), .int .i64 ((k : Int) / 2 * 2 - 1)] 45)
      obtain ⟨wwa, wwb, wwc, wwd⟩ := hww.four
      go_wp2_with fail
      refine (HS.out _ hBw).mono ?_
      rintro e w2 ⟨rfl, hb2⟩
      have own2 := oww.below hb2
      have hat2 := haw.below hb2
      have hB2 := hBw.trans (hb2.mono hBw.size)
      have hz2 := hB2.size
      obtain ⟨gB, offB, v, hBB, hgB, hvx, hcv⟩ := (HO.out.below hB2).at_ hlt2
      subst hBB
      rw [List.getD_eq_getElem?_getD, hvx] at HM2
      have HN : Hid (zs ++ [v] = meetL wd ht xs x y (k + 1)) := hide (by rw [meetL_next, ← hzs.out, HM2]; rfl)
      clear HM2 hvx hzs own hat hB oww hww haw wwa wwb wwc wwd ata atb hBw
      go_wp2_with (at_builtin; refine wpList_append_ints rfl (.tmp 25) (.tmp 32) rfl (w.heap.size + 1) A1 c1 zs rfl (own2.alloc _) (some ⟨w2.heap.size, 0, none⟩) 1 [v] rfl (OwnI.new (base := 0) w2 [v] #[.int .i64 v] rfl (Nat.zero_le _) (by simp [maxLen])).rd (by simp; omega) (by simp; omega) (zs ++ [v]) rfl ?_; intro A3 c3 w3 own3 hg3 hb3)
      go_roundw
      case rel => exact ⟨k + 1, A3, c3, zs ++ [v], by omega, by go_num, by simp, HN, by simp; omega, own3, (hat2.alloc _).grown hg3 (by
        by_cases hbn : blk A1 = none
        · exact .inl hbn
        · exact .inr (fun e => by have := (own2.ge e).1; omega)), (hB2.alloc hz2 _).grown hg3 (by simp; omega) (fun q hq => by have := (own2.ge hq).1; omega)⟩
      case measure => simp [intOf]; omega
    · have e1 : k = 4 := by omega
      have HE : Hid (zs = meetL wd ht xs x y 4) := hide (by rw [hzs.out, e1])
      clear e1
      go_wp2_with fail
      go_ret
      refine ⟨A1, c1, ?_, ?_, hB⟩
      · rw [← HE.out]; rfl
      · rw [← HE.out]; exact own.mono (by omega)
end Go.Proofs.Ytmjeafklafjakaa
