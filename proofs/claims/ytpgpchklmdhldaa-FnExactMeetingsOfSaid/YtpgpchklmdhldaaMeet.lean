/-
  Contracts: MeetingsOf, of the reference and of the program. Conditions: none beyond the lengths.
-/
import Derived.Test.YtpgpchklmdhldaaRenS
import Derived.Test.YtpgpchklmdhldaaMeetMath
import Derived.Test.YtpgpchklmdhldaaIsOdd
import Derived.Test.YtpgpchklmdhldaaCodeIn
import Derived.BigQuiet
namespace Go.Proofs.Ytpgpchklmdhldaa
open Go.RowKit
set_option linter.unusedVariables false

theorem OwnI.mp_ne2 {α : Type} {E : Me α} {w : World} {base b : Nat} {l : List (Int × α)} {A : Option Addr} {c : Nat} {xs : List Int} (h : OwnI w base A c xs) (hm : Mp E w b l) : some b ≠ blk A := hm.own_ne (intE_own.2 h)
theorem run_make_row (n : Nat) (hn : n ≤ 1048576) (W : World) :
    (Instr.makeSlice 33 (.int .i64 (n : Int)) (.int .i64 (n : Int))).run Try.prog W = .ok (.slice (some ⟨W.heap.size, 0, none⟩) n n) (W.alloc (.cells (madeCells intE.z.cells (n * intE.size)) 2)) :=
  intE.run_make n (by simp [intE]; omega) (by omega) W
theorem run_place_curve (x y : Int) (W : World) : (Instr.field 60 (.agg #[.int .i64 x, .int .i64 y]) 0).run Try.prog W = .ok (.int .i64 x) W := by
  have u3 := Try.underlying3
  have up := Try.underlying60
  have ha : (isAgg 3).run Try.prog W = .ok false W := by kernel_rfl
  go_simp
  simp [Instr.field, run_underlying Try.underlying60, go_sem, asAgg, Result.andThen]
/-- One more at a place of a square table. -/
theorem OwnC.bumpAt {w : World} {base top : Nat} {A : Option Addr} {c n : Nat} {m : Int} {t : List (List Int)} (h : OwnC w base top A c t) {a b : Nat} (hs : Sq n m t) (ha : a < n) (hb : b < n) :
    ∃ g B d xs v, A = some ⟨g, 0, none⟩ ∧ t[a]? = some xs ∧ w.cell? ⟨g, a, none⟩ = some (.slice (some ⟨B, 0, none⟩) xs.length d) ∧ xs.length = n ∧ (xs[b]? = some v ∧ 0 ≤ v ∧ v ≤ m) ∧ w.cell? ⟨B, b, none⟩ = some (.int .i64 v) ∧ w.frozen? ⟨B, b, none⟩ = false ∧ base ≤ B ∧ B < top ∧
      OwnI w base (some ⟨B, 0, none⟩) d xs ∧ OwnC (w.setCell ⟨B, b, none⟩ (.int .i64 (v + 1))) base top A c (bump a b t) ∧ w.grownBy (w.setCell ⟨B, b, none⟩ (.int .i64 (v + 1))) (some B) := by
  obtain ⟨g, B, d, xs, rfl, hg1, hg2, hg3, hx, hcell, hfr, hrow, htop, hupd⟩ := h.row (k := a) (by rw [hs.1]; exact ha)
  obtain ⟨hxl, hxv⟩ := hs.2 xs (List.mem_of_getElem? hx)
  obtain ⟨B0, v, rfl, hB1, hB2, hv, hcv, hfv, hset⟩ := hrow.at_ (k := b) (by rw [hxl]; exact hb)
  obtain ⟨o1, o2⟩ := hset (v + 1)
  have hvb := hxv v (List.mem_of_getElem? hv)
  refine ⟨g, B0, d, xs, v, rfl, hx, hcell, hxl, ⟨hv, hvb⟩, hcv, hfv, hB1, htop _ rfl, hrow, ?_, o2⟩
  rw [bump_at hx hv]
  exact hupd _ _ (by rw [List.length_set]) o1 o2
theorem l14FindV_any (A : Option Addr) (c T : Nat) (code : List (List Int)) (x : Int) (w : World) (i k : Nat) (hc : RC w T A code) (hn : code.length + sumLen code ≤ 1048576) (hv : validC code = true) (hx : x ∈ code.flatten) (hp : plc code x = ((i : Int), (k : Int))) :
    Calls Try.prog 74 #[.slice A code.length c, .int .i64 x] w (fun e w' => e = .returned (.int .i64 (i : Int)) ∧ w = w') := by
  have ha := valid_apart' hv
  obtain ⟨i0, k0, xs0, h1, h2, h3⟩ := apart_of_mem ha hx
  have e0 : plc code x = ((i0 : Int), (k0 : Int)) := by unfold plc; rw [h3]; rfl
  rw [e0] at hp
  injection hp with e1 e2
  obtain rfl : i0 = i := by omega
  have hi : i0 < code.length := (List.getElem?_eq_some_iff.1 h1).1
  have hiI : (i0 : Int) < (code.length : Int) := by omega
  have HA := hide ha
  have H3 := hide h3
  have HH : Hid (hasB xs0 x = true) := hide (any_hitH h2 (by simp))
  have H1 := hide h1
  clear ha h3 e0 e1 e2 h1 h2
  go_enter Try.func74, Try.ntmps74
  go_wp2_with fail
  go_loop [5] (fun s => ∃ j : Nat, j ≤ i0 ∧ s = .int .i64 j) (fun s => i0 + 1 - (intOf s).toNat)
  case atStart => exact ⟨0, Nat.zero_le _, rfl⟩
  case round =>
    obtain ⟨j, hj, rfl⟩ := hrel
    have hjl : j < code.length := by omega
    obtain ⟨b, off, B, d, xs, rfl, hb, hxx, hce, hd1, hd2, hR⟩ := hc.row hjl
    have hxl := sumLen_row hxx
    by_cases hji : j = i0
    · subst hji
      obtain rfl : xs = xs0 := by have := H1.out; rw [hxx] at this; injection this
      clear hxx
      go_wp2_with (go_at_call 93; refine (l00Has_any _ _ xs _ _ hR (by omega)).mono ?_; rw [HH.out]; rintro e w' ⟨rfl, rfl⟩)
      go_ret
      exact ⟨rfl, rfl⟩
    · have HN : Hid (hasB xs x = false) := hide (by
        cases hh : hasB xs x
        · rfl
        · unfold hasB at hh
          rw [List.any_eq_true] at hh
          obtain ⟨y, hy, he⟩ := hh
          have he' : y = x := by simpa using he
          subst he'
          obtain ⟨q, hq⟩ := List.mem_iff_getElem?.1 hy
          have h5 := HA.out j q xs y hxx hq
          rw [H3.out] at h5
          injection h5 with h5
          injection h5 with h5 _
          omega)
      clear hxx
      go_wp2_with (go_at_call 93; refine (l00Has_any _ _ xs _ _ hR (by omega)).mono ?_; rw [HN.out]; rintro e w' ⟨rfl, rfl⟩)
      go_round
      case rel => exact ⟨j + 1, by omega, by go_num⟩
      case measure => simp [intOf]; omega

set_option maxRecDepth 100000 in
set_option maxHeartbeats 8000000 in
theorem specMeet_any (A : Option Addr) (c T : Nat) (code : List (List Int)) (w : World) (hc : RC w T A code) (hn : code.length + sumLen code ≤ 1048576) :
    Calls Try.prog 21 #[.slice A code.length c] w (RetCC w (meetR code).1 (meetR code).2) := by
  cases hv : validC code
  · have HV : Hid (meetR code = ([], 1)) := hide (by unfold meetR; rw [if_neg (by rw [hv]; simp)])
    go_enter Try.func21, Try.ntmps21
    go_wp2_with fail
    refine (l14Ok_any _ _ T code _ hc hn).mono ?_
    rw [hv]
    rintro e w1 ⟨rfl, hb1⟩
    go_wp2_with fail
    refine bodyPost_ret (v := .tuple #[.slice none 0 0, .int .i64 1]) (by simp [results, Try.results21, go_sem]) rfl ?_
    rw [HV.out]
    exact ⟨none, 0, rfl, OwnC.nil _ _ _, hb1⟩
  · have HV : Hid (meetR code = (meetT code (sumLen code / 2), 0)) := hide (by unfold meetR; rw [if_pos hv])
    obtain ⟨hs1, hs2, hs3⟩ := valid_sum hv
    have hv0 := hide hv
    obtain ⟨N, hNe⟩ : ∃ N, N = sumLen code / 2 := ⟨_, rfl⟩
    have hNl : N ≤ 120 := by omega
    have HNE := hide hNe
    have e1 : (sumLen code : Int) / 2 = (N : Int) := by omega
    have hmk := fun W : World => run_make_row code.length (by omega) W
    clear hNe hs3
    go_enter Try.func21, Try.ntmps21
    go_wp2_with fail
    refine (l14Ok_any _ _ T code _ hc hn).mono ?_
    rw [hv]
    rintro e w1 ⟨rfl, hb1⟩
    clear hv
    have he : OwnC (w1.alloc (.cells #[] 33)) w.heap.size (w1.alloc (.cells #[] 33)).heap.size (some ⟨w1.heap.size, 0, none⟩) 0 [] := (OwnC.empty_ w1 _ rfl hb1.size).mono (Nat.le_refl _) (by simp)
    have hB0 := hb1.alloc hb1.size (.cells #[] 33)
    go_wp2_with fail
    go_loopw [4, 5] (fun o i wr => ∃ (k : Nat) (A1 : Option Addr) (c1 : Nat) (zs : List (List Int)), k ≤ code.length ∧ i = .int .i64 k ∧ o = .slice A1 zs.length c1 ∧ Hid (zs = List.replicate k (List.replicate code.length 0)) ∧ OwnC wr w.heap.size wr.heap.size A1 c1 zs ∧ Below w.heap.size w wr) (fun _ i _ => code.length - (intOf i).toNat)
    case atStart => exact ⟨0, _, 0, [], Nat.zero_le _, rfl, rfl, hide rfl, he, hB0⟩
    case round =>
      clear he hB0
      obtain ⟨k, A1, c1, zs, hk, rfl, rfl, hzs, own, hB⟩ := hrel
      obtain ⟨wo, rfl⟩ : ∃ wo : World, wo = wr := ⟨_, rfl⟩
      have hz := hB.size
      have hzl : zs.length ≤ 40 := by rw [hzs.out, List.length_replicate]; omega
      by_cases hlt : k < code.length
      · have hrow : OwnI (wo.alloc (.cells (madeCells intE.z.cells (code.length * intE.size)) 2)) wo.heap.size (some ⟨wo.heap.size, 0, none⟩) code.length (List.replicate code.length 0) := intE_own.1 (Own.made (E := intE) wo _ 0 rfl rfl (Nat.le_refl _) (by omega))
        have hfr : RG hdE ((wo.alloc (.cells (madeCells intE.z.cells (code.length * intE.size)) 2)).alloc (.cells #[.slice (some ⟨wo.heap.size, 0, none⟩) code.length code.length] 33)) (some ⟨wo.heap.size + 1, 0, none⟩) [⟨some ⟨wo.heap.size, 0, none⟩, (List.replicate code.length (0 : Int)).length, code.length⟩] := by
          rw [List.length_replicate]
          exact RG.fresh (E := hdE) (wo.alloc _) (wo.heap.size + 1) (by simp) ⟨some ⟨wo.heap.size, 0, none⟩, code.length, code.length⟩ #[.slice (some ⟨wo.heap.size, 0, none⟩) code.length code.length] rfl _
        obtain ⟨rz, hrz⟩ : ∃ rz, rz = List.replicate code.length (0 : Int) := ⟨_, rfl⟩
        rw [← hrz] at hrow hfr
        have HZ : Hid (zs ++ [rz] = List.replicate (k + 1) (List.replicate code.length 0)) := hide (by rw [hrz, hzs.out, List.replicate_succ'])
        clear hrz
        go_wp2_with (at_builtin; refine wpList_append_code rfl (.tmp 21) (.tmp 25) rfl w.heap.size wo.heap.size A1 c1 zs rfl ((own.alloc _).alloc _) (some ⟨wo.heap.size + 1, 0, none⟩) 1 rfl (some ⟨wo.heap.size, 0, none⟩) code.length rz hfr (hrow.alloc _) hz (by simp; omega) (by omega) (zs ++ [rz]) rfl ?_; intro A3 c3 w3 own3 hg3 hb3)
        go_roundw
        case rel => exact ⟨k + 1, A3, c3, zs ++ [rz], by omega, by go_num, by simp, HZ, own3, ((hB.alloc hz _).alloc (by simp; omega) _).grown hg3 (by simp; omega) (fun q hq => (own.ge_ hq).1)⟩
        case measure => simp [intOf]; omega
      · have HM0 : Hid (zs = meetT code 0) := hide (by rw [hzs.out, show k = code.length by omega]; rfl)
        clear hzs hmk
        go_wp2_with fail
        go_loopw [6] (fun s wr => ∃ (k : Nat) (t : List (List Int)), k ≤ N ∧ s = .int .i64 ((k : Int) + 1) ∧ Hid (zs.length = t.length) ∧ Hid (t = meetT code k) ∧ OwnC wr w.heap.size wo.heap.size A1 c1 t ∧ Below w.heap.size w wr ∧ wo.heap.size ≤ wr.heap.size) (fun s _ => N + 1 - (intOf s).toNat)
        case atStart => exact ⟨0, zs, Nat.zero_le _, by go_num, hide rfl, HM0, own, hB, Nat.le_refl _⟩
        case round =>
          clear own HM0 hB hz
          obtain ⟨k2, t, hk2, rfl, htl, ht, own, hB, hzz⟩ := hrel
          have hz := hB.size
          have hcr := hc.below hB
          by_cases hlt2 : k2 < N
          · obtain ⟨h1, h2⟩ := valid_at2 hv0.out (k := k2) (by rw [← HNE.out]; exact hlt2)
            obtain ⟨K, hK⟩ : ∃ K : Int, K = (k2 : Int) + 1 := ⟨_, rfl⟩
            rw [← hK] at h1 h2
            obtain ⟨a, ka, xa, ea, ca, la, fa, ga⟩ := curveOf_lt hv0.out h1
            obtain ⟨b, kb, xb, eb, cb, lb, fb, gb⟩ := curveOf_lt hv0.out h2
            have hsq := meetT_sq hv0.out k2 (by rw [← HNE.out]; exact hk2)
            rw [← ht.out] at hsq
            have HSQ := hide hsq
            have HT : Hid (meetS a b t = meetT code (k2 + 1)) := hide (by rw [meetT, ← ht.out, ← hK, ca, cb])
            have h1' := hide h1
            have h2' := hide h2
            have ea' := hide ea
            have eb' := hide eb
            have HKK := hide hK
            have wn : IntKind.i64.wrap (-K) = -K := by rw [IntKind.wrap_i64]; omega
            have wk1 : IntKind.i64.wrap (K + 1) = K + 1 := by rw [IntKind.wrap_i64]; omega
            have hKN : K ≤ (N : Int) := by omega
            have hla : (a : Int) < (t.length : Int) := by rw [hsq.1]; omega
            have hlb : (b : Int) < (t.length : Int) := by rw [hsq.1]; omega
            have hal : a < t.length := by rw [hsq.1]; exact la
            have hbl : b < t.length := by rw [hsq.1]; exact lb
            obtain ⟨g, B1, d1, xs1, v1, hA1, hx1, hc1, hbx1, hv1, hcc1, hff1, hge1, hlt1, oi1, ownb, hgb⟩ := own.bumpAt (a := a) (b := b) hsq la lb
            subst hA1
            rw [← hK]
            have hv1b : 0 ≤ v1 ∧ v1 ≤ 240 := by have := hv1.2; omega
            have wv1 : IntKind.i64.wrap (v1 + 1) = v1 + 1 := by rw [IntKind.wrap_i64]; omega
            have hlb1 : (b : Int) < (xs1.length : Int) := by rw [hbx1]; omega
            have hB1 := hB.setCell (p := ⟨B1, b, none⟩) hge1 (.int .i64 (v1 + 1))
            have hz1 : wo.heap.size ≤ (wr.setCell ⟨B1, b, none⟩ (.int .i64 (v1 + 1))).heap.size := by simpa using hzz
            have htl1 : Hid (t.length = (bump a b t).length) := hide (by unfold bump; rw [List.length_set])
            rw [htl.out]
            clear h1 h2 ea eb ca cb fa ga fb gb hsq hK hv1 hx1 hbx1 oi1 ht
            by_cases hab : a = b
            · have HT1 : Hid (bump a b t = meetT code (k2 + 1)) := hide (by rw [← HT.out]; unfold meetS; rw [if_pos hab])
              have hne : ((a : Int) != (b : Int)) = false := by simp [hab]
              clear hab
              go_wp2_with (first | (go_at_call 73; refine (l15Many_any _ _ T code _ hcr hn).mono ?_; rintro e w' ⟨rfl, rfl⟩) | (go_at_call_of 74 (Value.int .i64 K); refine (l14FindV_any _ _ T code K _ a ka hcr hn hv0.out h1'.out ea'.out).mono ?_; rintro e w' ⟨rfl, rfl⟩) | (go_at_call_of 74 (Value.int .i64 (-K)); refine (l14FindV_any _ _ T code (-K) _ b kb hcr hn hv0.out h2'.out eb'.out).mono ?_; rintro e w' ⟨rfl, rfl⟩))
              go_roundw
              case rel => exact ⟨k2 + 1, bump a b t, by omega, by rw [HKK.out]; go_num, htl1, HT1, ownb, hB1, hz1⟩
              case measure => have := HKK.out; simp [intOf]; omega
            · have HT1 : Hid (bump b a (bump a b t) = meetT code (k2 + 1)) := hide (by rw [← HT.out]; unfold meetS; rw [if_neg hab])
              have hne : ((a : Int) != (b : Int)) = true := by simp; omega
              obtain ⟨g2, B2, d2, xs2, v2, hA2, hx2, hc2, hbx2, hv2, hcc2, hff2, hge2, hlt2', oi2, ownc, hgc⟩ := ownb.bumpAt (a := b) (b := a) (HSQ.out.bump (by omega) la lb) lb la
              injection hA2 with hA2
              injection hA2 with hA2
              subst hA2
              have hv2b : 0 ≤ v2 ∧ v2 ≤ 241 := by have := hv2.2; omega
              have wv2 : IntKind.i64.wrap (v2 + 1) = v2 + 1 := by rw [IntKind.wrap_i64]; omega
              have hla2 : (a : Int) < (xs2.length : Int) := by rw [hbx2]; omega
              have hB2 := hB1.setCell (p := ⟨B2, a, none⟩) hge2 (.int .i64 (v2 + 1))
              have htl2 : Hid (t.length = (bump b a (bump a b t)).length) := hide (by unfold bump; simp)
              have hz2b : wo.heap.size ≤ ((wr.setCell ⟨B1, b, none⟩ (.int .i64 (v1 + 1))).setCell ⟨B2, a, none⟩ (.int .i64 (v2 + 1))).heap.size := by simpa using hz1
              clear hab hv2 hx2 hbx2 oi2 hgb hgc
              go_wp2_with (first | (go_at_call 73; refine (l15Many_any _ _ T code _ hcr hn).mono ?_; rintro e w' ⟨rfl, rfl⟩) | (go_at_call_of 74 (Value.int .i64 K); refine (l14FindV_any _ _ T code K _ a ka hcr hn hv0.out h1'.out ea'.out).mono ?_; rintro e w' ⟨rfl, rfl⟩) | (go_at_call_of 74 (Value.int .i64 (-K)); refine (l14FindV_any _ _ T code (-K) _ b kb hcr hn hv0.out h2'.out eb'.out).mono ?_; rintro e w' ⟨rfl, rfl⟩))
              go_roundw
              case rel => exact ⟨k2 + 1, bump b a (bump a b t), by omega, by rw [HKK.out]; go_num, htl2, HT1, ownc, hB2, hz2b⟩
              case measure => have := HKK.out; simp [intOf]; omega
          · have hkn : ¬ ((k2 : Int) + 1 ≤ (N : Int)) := by omega
            have ht' := ht.out
            rw [show k2 = N by omega, HNE.out] at ht'
            have HZ := hide ht'
            rw [htl.out]
            clear ht ht'
            go_wp2_with ((go_at_call 73; refine (l15Many_any _ _ T code _ hcr hn).mono ?_; rintro e w' ⟨rfl, rfl⟩))
            refine bodyPost_ret (v := .tuple #[.slice A1 t.length c1, .int .i64 0]) (by simp [results, Try.results21, go_sem]) rfl ?_
            rw [HV.out, ← HZ.out]
            exact ⟨A1, c1, rfl, own.mono (Nat.le_refl _) hzz, hB⟩
set_option maxRecDepth 100000 in
set_option maxHeartbeats 8000000 in
theorem implMeet_any (A : Option Addr) (c T : Nat) (code : List (List Int)) (w : World) (hc : RC w T A code) (hn : code.length + sumLen code ≤ 1048576) :
    Calls Try.prog 22 #[.slice A code.length c] w (RetCC w (meetR code).1 (meetR code).2) := by
  cases hv : validC code
  · have HV : Hid (meetR code = ([], 1)) := hide (by unfold meetR; rw [if_neg (by rw [hv]; simp)])
    go_enter Try.func22, Try.ntmps22
    go_wp2_with fail
    refine (validCode_any _ _ T code _ hc hn).mono ?_
    rw [hv]
    rintro e w1 ⟨rfl, hb1⟩
    go_wp2_with fail
    refine bodyPost_ret (v := .tuple #[.slice none 0 0, .int .i64 1]) (by simp [results, Try.results22, go_sem]) rfl ?_
    rw [HV.out]
    exact ⟨none, 0, rfl, OwnC.nil _ _ _, hb1⟩
  · have HV : Hid (meetR code = (meetT code (sumLen code / 2), 0)) := hide (by unfold meetR; rw [if_pos hv])
    obtain ⟨hs1, hs2, hs3⟩ := valid_sum hv
    have hv0 := hide hv
    obtain ⟨N, hNe⟩ : ∃ N, N = sumLen code / 2 := ⟨_, rfl⟩
    have hNl : N ≤ 120 := by omega
    have HNE := hide hNe
    have e1 : (sumLen code : Int) / 2 = (N : Int) := by omega
    have hmk := fun W : World => run_make_row code.length (by omega) W
    clear hNe hs3
    go_enter Try.func22, Try.ntmps22
    go_wp2_with fail
    refine (validCode_any _ _ T code _ hc hn).mono ?_
    rw [hv]
    rintro e w1 ⟨rfl, hb1⟩
    clear hv
    have he : OwnC (w1.alloc (.cells #[] 33)) w.heap.size (w1.alloc (.cells #[] 33)).heap.size (some ⟨w1.heap.size, 0, none⟩) 0 [] := (OwnC.empty_ w1 _ rfl hb1.size).mono (Nat.le_refl _) (by simp)
    have hB0 := hb1.alloc hb1.size (.cells #[] 33)
    go_wp2_with fail
    go_loopw [4, 15] (fun o i wr => ∃ (k : Nat) (A1 : Option Addr) (c1 : Nat) (zs : List (List Int)), k ≤ code.length ∧ i = .int .i64 k ∧ o = .slice A1 zs.length c1 ∧ Hid (zs = List.replicate k (List.replicate code.length 0)) ∧ OwnC wr w.heap.size wr.heap.size A1 c1 zs ∧ Below w.heap.size w wr) (fun _ i _ => code.length - (intOf i).toNat)
    case atStart => exact ⟨0, _, 0, [], Nat.zero_le _, rfl, rfl, hide rfl, he, hB0⟩
    case round =>
      clear he hB0
      obtain ⟨k, A1, c1, zs, hk, rfl, rfl, hzs, own, hB⟩ := hrel
      obtain ⟨wo, rfl⟩ : ∃ wo : World, wo = wr := ⟨_, rfl⟩
      have hz := hB.size
      have hzl : zs.length ≤ 40 := by rw [hzs.out, List.length_replicate]; omega
      by_cases hlt : k < code.length
      · have hrow : OwnI (wo.alloc (.cells (madeCells intE.z.cells (code.length * intE.size)) 2)) wo.heap.size (some ⟨wo.heap.size, 0, none⟩) code.length (List.replicate code.length 0) := intE_own.1 (Own.made (E := intE) wo _ 0 rfl rfl (Nat.le_refl _) (by omega))
        have hfr : RG hdE ((wo.alloc (.cells (madeCells intE.z.cells (code.length * intE.size)) 2)).alloc (.cells #[.slice (some ⟨wo.heap.size, 0, none⟩) code.length code.length] 33)) (some ⟨wo.heap.size + 1, 0, none⟩) [⟨some ⟨wo.heap.size, 0, none⟩, (List.replicate code.length (0 : Int)).length, code.length⟩] := by
          rw [List.length_replicate]
          exact RG.fresh (E := hdE) (wo.alloc _) (wo.heap.size + 1) (by simp) ⟨some ⟨wo.heap.size, 0, none⟩, code.length, code.length⟩ #[.slice (some ⟨wo.heap.size, 0, none⟩) code.length code.length] rfl _
        obtain ⟨rz, hrz⟩ : ∃ rz, rz = List.replicate code.length (0 : Int) := ⟨_, rfl⟩
        rw [← hrz] at hrow hfr
        have HZ : Hid (zs ++ [rz] = List.replicate (k + 1) (List.replicate code.length 0)) := hide (by rw [hrz, hzs.out, List.replicate_succ'])
        clear hrz
        go_wp2_with (at_builtin; refine wpList_append_code rfl (.tmp 17) (.tmp 21) rfl w.heap.size wo.heap.size A1 c1 zs rfl ((own.alloc _).alloc _) (some ⟨wo.heap.size + 1, 0, none⟩) 1 rfl (some ⟨wo.heap.size, 0, none⟩) code.length rz hfr (hrow.alloc _) hz (by simp; omega) (by omega) (zs ++ [rz]) rfl ?_; intro A3 c3 w3 own3 hg3 hb3)
        go_roundw
        case rel => exact ⟨k + 1, A3, c3, zs ++ [rz], by omega, by go_num, by simp, HZ, own3, ((hB.alloc hz _).alloc (by simp; omega) _).grown hg3 (by simp; omega) (fun q hq => (own.ge_ hq).1)⟩
        case measure => simp [intOf]; omega
      · have HM0 : Hid (zs = meetT code 0) := hide (by rw [hzs.out, show k = code.length by omega]; rfl)
        clear hzs hmk
        go_wp2_with fail
        refine (places_any _ _ T code _ (hc.below hB) hn).mono ?_
        rintro e w2 ⟨mb, l, rfl, hmb, hmp, hl, hb2⟩
        have own2 := own.below hb2
        have hB2 := hB.trans (hb2.mono hz)
        have HPL := hide (atK_plc hl.out)
        have hz2 := hb2.size
        go_wp2_with fail
        go_loopw [6] (fun s wr => ∃ (k : Nat) (t : List (List Int)), k ≤ N ∧ s = .int .i64 ((k : Int) + 1) ∧ Hid (zs.length = t.length) ∧ Hid (t = meetT code k) ∧ OwnC wr w.heap.size wo.heap.size A1 c1 t ∧ Mp plE wr mb l ∧ Below w.heap.size w wr ∧ wo.heap.size ≤ wr.heap.size) (fun s _ => N + 1 - (intOf s).toNat)
        case atStart => exact ⟨0, zs, Nat.zero_le _, by go_num, hide rfl, HM0, own2, hmp, hB2, hz2⟩
        case round =>
          clear own HM0 hB hz own2 hmp hB2
          obtain ⟨k2, t, hk2, rfl, htl, ht, own, hmp, hB, hzz⟩ := hrel
          have hz := hB.size
          have hcr := hc.below hB
          by_cases hlt2 : k2 < N
          · obtain ⟨h1, h2⟩ := valid_at2 hv0.out (k := k2) (by rw [← HNE.out]; exact hlt2)
            obtain ⟨K, hK⟩ : ∃ K : Int, K = (k2 : Int) + 1 := ⟨_, rfl⟩
            rw [← hK] at h1 h2
            obtain ⟨a, ka, xa, ea, ca, la, fa, ga⟩ := curveOf_lt hv0.out h1
            obtain ⟨b, kb, xb, eb, cb, lb, fb, gb⟩ := curveOf_lt hv0.out h2
            have hsq := meetT_sq hv0.out k2 (by rw [← HNE.out]; exact hk2)
            rw [← ht.out] at hsq
            have HSQ := hide hsq
            have HT : Hid (meetS a b t = meetT code (k2 + 1)) := hide (by rw [meetT, ← ht.out, ← hK, ca, cb])
            have h1' := hide h1
            have h2' := hide h2
            have ea' := hide ea
            have eb' := hide eb
            have HKK := hide hK
            have wn : IntKind.i64.wrap (-K) = -K := by rw [IntKind.wrap_i64]; omega
            have wk1 : IntKind.i64.wrap (K + 1) = K + 1 := by rw [IntKind.wrap_i64]; omega
            have hKN : K ≤ (N : Int) := by omega
            have hla : (a : Int) < (t.length : Int) := by rw [hsq.1]; omega
            have hlb : (b : Int) < (t.length : Int) := by rw [hsq.1]; omega
            have hal : a < t.length := by rw [hsq.1]; exact la
            have hbl : b < t.length := by rw [hsq.1]; exact lb
            obtain ⟨g, B1, d1, xs1, v1, hA1, hx1, hc1, hbx1, hv1, hcc1, hff1, hge1, hlt1, oi1, ownb, hgb⟩ := own.bumpAt (a := a) (b := b) hsq la lb
            subst hA1
            rw [← hK]
            have hv1b : 0 ≤ v1 ∧ v1 ≤ 240 := by have := hv1.2; omega
            have wv1 : IntKind.i64.wrap (v1 + 1) = v1 + 1 := by rw [IntKind.wrap_i64]; omega
            have hlb1 : (b : Int) < (xs1.length : Int) := by rw [hbx1]; omega
            have hB1 := hB.setCell (p := ⟨B1, b, none⟩) hge1 (.int .i64 (v1 + 1))
            have hz1 : wo.heap.size ≤ (wr.setCell ⟨B1, b, none⟩ (.int .i64 (v1 + 1))).heap.size := by simpa using hzz
            have htl1 : Hid (t.length = (bump a b t).length) := hide (by unfold bump; rw [List.length_set])
            rw [htl.out]
            have hmp1 := hmp.setFar (p := ⟨B1, b, none⟩) (fun e => (oi1.mp_ne2 hmp) (by rw [e]; rfl)) (.int .i64 (v1 + 1))
            obtain ⟨j0, j1, j2, j3, j4, j5⟩ := hmp.look_pl (x := K) ((HPL.out K).trans ea'.out)
            obtain ⟨m0, m1, m2, m3, m4, m5⟩ := hmp.look_pl (x := -K) ((HPL.out (-K)).trans eb'.out)
            have fl1 := fun W => run_place_curve (a : Int) (ka : Int) W
            have fl2 := fun W => run_place_curve (b : Int) (kb : Int) W
            clear j1 j2 j4 j5 m1 m2 m4 m5
            clear h1 h2 ea eb ca cb fa ga fb gb hsq hK hv1 hx1 hbx1 oi1 ht
            by_cases hab : a = b
            · have HT1 : Hid (bump a b t = meetT code (k2 + 1)) := hide (by rw [← HT.out]; unfold meetS; rw [if_pos hab])
              have hne : ((a : Int) != (b : Int)) = false := by simp [hab]
              clear hab
              go_wp2_with ((go_at_call 75; refine (countCoded_any _ _ T code _ hcr hn).mono ?_; rintro e w' ⟨rfl, rfl⟩))
              go_region
              clear j0 j3 m0 m3 fl1 fl2
              go_wp2_with fail
              go_roundw
              case rel => exact ⟨k2 + 1, bump a b t, by omega, by rw [HKK.out]; go_num, htl1, HT1, ownb.drew, hmp1.drew, hB1.drew, hz1⟩
              case measure => have := HKK.out; simp [intOf]; omega
            · have HT1 : Hid (bump b a (bump a b t) = meetT code (k2 + 1)) := hide (by rw [← HT.out]; unfold meetS; rw [if_neg hab])
              have hne : ((a : Int) != (b : Int)) = true := by simp; omega
              obtain ⟨g2, B2, d2, xs2, v2, hA2, hx2, hc2, hbx2, hv2, hcc2, hff2, hge2, hlt2', oi2, ownc, hgc⟩ := ownb.bumpAt (a := b) (b := a) (HSQ.out.bump (by omega) la lb) lb la
              injection hA2 with hA2
              injection hA2 with hA2
              subst hA2
              have hv2b : 0 ≤ v2 ∧ v2 ≤ 241 := by have := hv2.2; omega
              have wv2 : IntKind.i64.wrap (v2 + 1) = v2 + 1 := by rw [IntKind.wrap_i64]; omega
              have hla2 : (a : Int) < (xs2.length : Int) := by rw [hbx2]; omega
              have hB2 := hB1.setCell (p := ⟨B2, a, none⟩) hge2 (.int .i64 (v2 + 1))
              have htl2 : Hid (t.length = (bump b a (bump a b t)).length) := hide (by unfold bump; simp)
              have hz2b : wo.heap.size ≤ ((wr.setCell ⟨B1, b, none⟩ (.int .i64 (v1 + 1))).setCell ⟨B2, a, none⟩ (.int .i64 (v2 + 1))).heap.size := by simpa using hz1
              have hmp2 := hmp1.setFar (p := ⟨B2, a, none⟩) (fun e => (oi2.mp_ne2 hmp1) (by rw [e]; rfl)) (.int .i64 (v2 + 1))
              clear hab hv2 hx2 hbx2 oi2 hgb hgc
              go_wp2_with ((go_at_call 75; refine (countCoded_any _ _ T code _ hcr hn).mono ?_; rintro e w' ⟨rfl, rfl⟩))
              go_region
              clear j0 j3 m0 m3 fl1 fl2
              go_wp2_with fail
              go_roundw
              case rel => exact ⟨k2 + 1, bump b a (bump a b t), by omega, by rw [HKK.out]; go_num, htl2, HT1, ownc.drew, hmp2.drew, hB2.drew, hz2b⟩
              case measure => have := HKK.out; simp [intOf]; omega
          · have hkn : ¬ ((k2 : Int) + 1 ≤ (N : Int)) := by omega
            have ht' := ht.out
            rw [show k2 = N by omega, HNE.out] at ht'
            have HZ := hide ht'
            rw [htl.out]
            clear ht ht'
            go_wp2_with ((go_at_call 75; refine (countCoded_any _ _ T code _ hcr hn).mono ?_; rintro e w' ⟨rfl, rfl⟩))
            refine bodyPost_ret (v := .tuple #[.slice A1 t.length c1, .int .i64 0]) (by simp [results, Try.results22, go_sem]) rfl ?_
            rw [HV.out, ← HZ.out]
            exact ⟨A1, c1, rfl, own.mono (Nat.le_refl _) hzz, hB⟩
end Go.Proofs.Ytpgpchklmdhldaa
