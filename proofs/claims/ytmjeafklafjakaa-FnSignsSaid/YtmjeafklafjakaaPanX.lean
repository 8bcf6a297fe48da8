/-
  Contract of the reference: the number of the crossings of two curves. Conditions: a valid panel.
-/
import Derived.Test.YtmjeafklafjakaaPanC
namespace Go.Proofs.Ytmjeafklafjakaa
open Go.RowKit
set_option linter.unusedVariables false

section
variable {wd ht : Int} {xs : List Int}
theorem meet_cells (hs : Sz wd ht) (hl : (xs.length : Int) = innerN wd ht) {j : Nat} (hj : j < xs.length) (h0 : xs.getD j 0 = 0) :
    ∃ i k : Nat, (dirC wd ht xs true)[(zTo xs j).length]? = some (i : Int) ∧ (dirC wd ht xs false)[(zTo xs j).length]? = some (k : Int) ∧
      ((meetA wd ht xs (pntX wd j) (pntY wd j) 0 = i ∧ meetA wd ht xs (pntX wd j) (pntY wd j) 1 = k) ∨ (meetA wd ht xs (pntX wd j) (pntY wd j) 0 = k ∧ meetA wd ht xs (pntX wd j) (pntY wd j) 1 = i)) := by
  obtain ⟨hp, he, hn, ⟨y1, y2⟩, x1, x2⟩ := pnt_facts hs (k := j) (by omega)
  obtain ⟨X, hX⟩ : ∃ X : Nat, pntX wd j = (X : Int) := ⟨(pntX wd j).toNat, by omega⟩
  obtain ⟨Y, hY⟩ : ∃ Y : Nat, pntY wd j = (Y : Int) := ⟨(pntY wd j).toNat, by omega⟩
  rw [hX, hY] at hp he hn ⊢
  have hol : (ownL wd ht xs).length = nSeg wd ht := (trInv_all (xs := xs) hs).len
  have hg : ∀ a : Wk, OkW wd ht a → (ownL wd ht xs).getD (segN ht a) (-1) = (ownL wd ht xs).getD (segN ht a) 0 := fun a ha => by
    have := (segN_int hs ha).2
    rw [List.getD_eq_getElem?_getD, List.getD_eq_getElem?_getD, List.getElem?_eq_getElem (by omega)]
    rfl
  have o0 := meet_ok hs hp he (k := 0) (by omega)
  have o1 := meet_ok hs hp he (k := 1) (by omega)
  have c0 : cellC wd ht xs X Y = meetA wd ht xs X Y 0 := by
    rw [cell_of hs o0 (i := X) (j := Y) (by unfold loX; simp [Wk.nx]; omega) (by unfold loY; simp [Wk.ny]; omega), hg _ o0]
    rfl
  have c1 : cellC wd ht xs (X + 1) Y = meetA wd ht xs X Y 1 := by
    rw [cell_of hs o1 (i := X + 1) (j := Y) (by unfold loX; simp) (by unfold loY; simp [Wk.ny]; omega), hg _ o1]
    rfl
  obtain ⟨i, k, h1, h2, h3⟩ := cells_at hs hl hp he hn hj h0
  rw [c0, c1] at h3
  exact ⟨i, k, h1, h2, h3⟩
/-- how many crossings of two curves there are among the first inner points -/
noncomputable def comTo (wd ht : Int) (xs : List Int) (a b k : Nat) : Int := su (zTo xs k).length (metB wd ht xs a b)
theorem metB_01 (a b k : Nat) : metB wd ht xs a b k = 0 ∨ metB wd ht xs a b k = 1 := by
  unfold metB
  split
  · exact .inr rfl
  · exact .inl rfl
theorem su_met (a b : Nat) : ∀ n, 0 ≤ su n (metB wd ht xs a b) ∧ su n (metB wd ht xs a b) ≤ (n : Int)
  | 0 => by show (0 : Int) ≤ 0 ∧ (0 : Int) ≤ 0; omega
  | n + 1 => by
    have ih := su_met a b n
    have h := metB_01 (wd := wd) (ht := ht) (xs := xs) a b n
    show 0 ≤ su n (metB wd ht xs a b) + metB wd ht xs a b n ∧ su n (metB wd ht xs a b) + metB wd ht xs a b n ≤ ((n + 1 : Nat) : Int)
    omega
theorem comTo_bound (a b k : Nat) : 0 ≤ comTo wd ht xs a b k ∧ comTo wd ht xs a b k ≤ (k : Int) := by
  have h1 := su_met (wd := wd) (ht := ht) (xs := xs) a b (zTo xs k).length
  have h2 := zTo_len xs k
  unfold comTo
  omega
theorem comTo_no {a b k : Nat} {x : Int} (h : xs[k]? = some x) (h0 : ¬ x = 0) : comTo wd ht xs a b (k + 1) = comTo wd ht xs a b k := by
  unfold comTo
  rw [zTo_no h h0]
theorem comTo_yes (hs : Sz wd ht) (hl : (xs.length : Int) = innerN wd ht) {a b k : Nat} {x : Int} (h : xs[k]? = some x) (h0 : x = 0) {p q : Int} (hp : meetA wd ht xs (pntX wd k) (pntY wd k) 0 = p) (hq : meetA wd ht xs (pntX wd k) (pntY wd k) 1 = q) :
    comTo wd ht xs a b (k + 1) = comTo wd ht xs a b k + (if (p = a ∧ q = b) ∨ (p = b ∧ q = a) then 1 else 0) := by
  have hk : k < xs.length := (List.getElem?_eq_some_iff.1 h).1
  obtain ⟨i, j, h1, h2, h3⟩ := meet_cells hs hl hk (by rw [List.getD_eq_getElem?_getD, h, h0]; rfl)
  unfold comTo
  rw [zTo_yes h h0, List.length_append, List.length_singleton]
  show su (zTo xs k).length _ + metB wd ht xs a b (zTo xs k).length = _
  congr 1
  unfold metB
  rw [getD_some h1, getD_some h2]
  rw [hp, hq] at h3
  by_cases hb : (p = a ∧ q = b) ∨ (p = b ∧ q = a)
  · rw [if_pos hb, if_pos (by unfold Both; omega)]
  · rw [if_neg hb, if_neg (by unfold Both; omega)]
theorem lk_le {a b : Nat} (hs : Sz wd ht) (hl : (xs.length : Int) = innerN wd ht) : -(comTo wd ht xs a b xs.length) ≤ lkG (dirC wd ht xs true) (dirC wd ht xs false) (sgL wd ht xs) (zTo xs xs.length).length a b ∧ lkG (dirC wd ht xs true) (dirC wd ht xs false) (sgL wd ht xs) (zTo xs xs.length).length a b ≤ comTo wd ht xs a b xs.length := by
  unfold comTo
  have hlen : (sgL wd ht xs).length = (zTo xs xs.length).length := sgL_len hs hl
  obtain ⟨m, hm⟩ : ∃ m, m = (zTo xs xs.length).length := ⟨_, rfl⟩
  rw [← hm] at hlen ⊢
  have : ∀ k, k ≤ m → -(su k (metB wd ht xs a b)) ≤ lkG (dirC wd ht xs true) (dirC wd ht xs false) (sgL wd ht xs) k a b ∧ lkG (dirC wd ht xs true) (dirC wd ht xs false) (sgL wd ht xs) k a b ≤ su k (metB wd ht xs a b) := by
    intro k
    induction k with
    | zero => intro _; exact ⟨Int.le_refl _, Int.le_refl _⟩
    | succ k ih =>
      intro hk
      have := ih (by omega)
      rw [lkG]
      have hm2 : su (k + 1) (metB wd ht xs a b) = su k (metB wd ht xs a b) + (if Both ((dirC wd ht xs true).getD k 0) ((dirC wd ht xs false).getD k 0) a b then 1 else 0) := rfl
      rw [hm2]
      have hsg := sgL_pm (List.mem_of_getElem? (List.getElem?_eq_getElem (l := sgL wd ht xs) (i := k) (by omega)))
      have hsd : (sgL wd ht xs).getD k 0 = (sgL wd ht xs)[k] := by rw [List.getD_eq_getElem?_getD, List.getElem?_eq_getElem (by omega)]; rfl
      rw [hsd]
      split <;> omega
  exact this m (Nat.le_refl _)
end

set_option maxRecDepth 20000 in
set_option maxHeartbeats 8000000 in
theorem l04Cross_ok (b0 : Nat) (wd ht : Int) (A B : Option Addr) (c d : Nat) (xs : List Int) (a b : Nat) (w : World) (hp : PA w b0 wd ht A c xs) (hs : Sz wd ht) (hl : (xs.length : Int) = innerN wd ht) (hn : xs.length ≤ 200) (ho : RI w B (ownL wd ht xs)) (hab : a ≠ b) :
    Calls Try.prog 37 #[.pointer (some ⟨b0, 0, none⟩), .slice B (ownL wd ht xs).length d, .int .i64 (a : Int), .int .i64 (b : Int)] w (RetV w (.int .i64 (comTo wd ht xs a b xs.length))) := by
  have HPT : Hid (∀ (k : Nat) (W : World), k < xs.length → Below w.heap.size w W → Calls Try.prog 40 #[.pointer (some ⟨b0, 0, none⟩), .int .i64 (k : Int)] W (RetV W (.agg #[.int .i64 (pntX wd k), .int .i64 (pntY wd k)]))) := hide fun k W hk hb =>
    l02Point_any b0 wd ht A c xs k W (hp.below hb) hs (by omega)
  have HMT : Hid (∀ (k : Nat) (W : World), k < xs.length → Below w.heap.size w W → Calls Try.prog 61 #[.pointer (some ⟨b0, 0, none⟩), .slice B (ownL wd ht xs).length d, .agg #[.int .i64 (pntX wd k), .int .i64 (pntY wd k)]] W (RetI W (meetL wd ht xs (pntX wd k) (pntY wd k) 4))) := hide fun k W hk hb => by
    obtain ⟨h1, h2, _⟩ := pnt_facts hs (k := k) (by omega)
    exact l04Meet_ok b0 wd ht _ _ A B c d xs W (hp.below hb) hs h1 h2 (ho.below hb)
  have HCO := hide (fun (a b : Nat) => comTo_bound (wd := wd) (ht := ht) (xs := xs) a b)
  have HYES := hide (fun (k : Nat) (x p q : Int) (h : xs[k]? = some x) (h0 : x = 0) (hp : meetA wd ht xs (pntX wd k) (pntY wd k) 0 = p) (hq : meetA wd ht xs (pntX wd k) (pntY wd k) 1 = q) => comTo_yes (a := a) (b := b) hs hl h h0 hp hq)
  obtain ⟨N, hN⟩ : ∃ N, N = (ownL wd ht xs).length := ⟨_, rfl⟩
  rw [← hN] at HMT ⊢
  have c2 := hp.c2
  have HP := hide hp
  clear hp ho hN hs hl
  go_enter Try.func37, Try.ntmps37
  go_wp2_with fail
  go_loopw [9, 10] (fun n i wr => ∃ (k : Nat) (m : Int), k ≤ xs.length ∧ i = .int .i64 (k : Int) ∧ n = .int .i64 m ∧ Hid (m = comTo wd ht xs a b k) ∧ (0 ≤ m ∧ m ≤ (k : Int)) ∧ Below w.heap.size w wr) (fun _ i _ => xs.length - (intOf i).toNat)
  case atStart => exact ⟨0, 0, Nat.zero_le _, rfl, rfl, hide rfl, ⟨Int.le_refl _, Int.le_refl _⟩, Below.refl _ _⟩
  case round =>
    obtain ⟨k, m, hk, rfl, rfl, hm, hmb, hB⟩ := hrel
    have hpr := HP.out.below hB
    have c2 := hpr.c2
    have hz := hB.size
    by_cases hlt : k < xs.length
    · obtain ⟨g, off, x, rfl, hg, hx, hcx⟩ := hpr.rd.at_ hlt
      by_cases h0 : x = 0
      · have e0 : (x != 0) = false := by simp [h0]
        obtain ⟨p, hpp⟩ : ∃ p, meetA wd ht xs (pntX wd k) (pntY wd k) 0 = p := ⟨_, rfl⟩
        obtain ⟨q, hqq⟩ : ∃ q, meetA wd ht xs (pntX wd k) (pntY wd k) 1 = q := ⟨_, rfl⟩
        have HY := hide (HYES.out k x p q hx h0 hpp hqq)
        have hHP := hide (HPT.out k wr hlt hB)
        have hHM := hide (fun W => HMT.out k W hlt)
        have HML : Hid ((meetL wd ht xs (pntX wd k) (pntY wd k) 4)[0]? = some p ∧ (meetL wd ht xs (pntX wd k) (pntY wd k) 4)[1]? = some q ∧ (meetL wd ht xs (pntX wd k) (pntY wd k) 4).length = 4) := hide ⟨by rw [← hpp]; rfl, by rw [← hqq]; rfl, meetL_len _ _ _ _ _ _⟩
        obtain ⟨X, hX⟩ : ∃ X, X = pntX wd k := ⟨_, rfl⟩
        obtain ⟨Y, hY⟩ : ∃ Y, Y = pntY wd k := ⟨_, rfl⟩
        obtain ⟨zs, hzs⟩ : ∃ zs, zs = meetL wd ht xs (pntX wd k) (pntY wd k) 4 := ⟨_, rfl⟩
        rw [← hzs] at HML hHM
        rw [← hX, ← hY] at hHM hHP
        have hz4 : zs.length = 4 := HML.out.2.2
        have HZ4 := hide hz4
        clear hX hY hzs hpp hqq hx h0 hz4
        go_wp2_with fail
        refine hHP.out.mono ?_
        rintro e w1 ⟨rfl, hb1⟩
        have B1 := hB.trans (hb1.mono hz)
        go_wp2_with fail
        refine (hHM.out _ B1).mono ?_
        rintro e w2 ⟨A2, c2', rfl, own, hb2⟩
        have B2 := B1.trans (hb2.mono B1.size)
        obtain ⟨g2, off2, v0, hA2, hg2, hv0, hc0⟩ := own.rd.at_ (k := 0) (by have := HZ4.out; omega)
        obtain ⟨g3, off3, v1, hA3, hg3, hv1, hc1⟩ := own.rd.at_ (k := 1) (by have := HZ4.out; omega)
        subst hA2
        injection hA3 with hA3
        injection hA3 with hA3 hA4
        subst hA3 hA4
        rw [HML.out.1] at hv0
        rw [HML.out.2.1] at hv1
        injection hv0 with hv0
        injection hv1 with hv1
        subst hv0 hv1
        rw [HZ4.out]
        rw [Nat.add_zero] at hc0
        have hwm : IntKind.i64.wrap (m + 1) = m + 1 := by rw [IntKind.wrap_i64]; omega
        clear own hb1 hb2
        by_cases q1 : p = a
        · have e1 : (p == (a : Int)) = true := eqt q1
          by_cases q2 : q = b
          · have e2 : (q == (b : Int)) = true := eqt q2
            have HN : Hid (m + 1 = comTo wd ht xs a b (k + 1)) := hide (by rw [HY.out, if_pos (.inl ⟨q1, q2⟩), hm.out])
            clear q1 q2
            go_wp2_with fail
            go_roundw
            case rel => exact ⟨k + 1, m + 1, by omega, by go_num, by go_num, HN, by omega, B2⟩
            case measure => simp [intOf]; omega
          · have e2 : (q == (b : Int)) = false := eqf q2
            have e3 : (p == (b : Int)) = false := eqf (by omega)
            have HN : Hid (m = comTo wd ht xs a b (k + 1)) := hide (by rw [HY.out, if_neg (by omega), hm.out, Int.add_zero])
            clear q1 q2
            go_wp2_with fail
            go_roundw
            case rel => exact ⟨k + 1, m, by omega, by go_num, rfl, HN, by omega, B2⟩
            case measure => simp [intOf]; omega
        · have e1 : (p == (a : Int)) = false := eqf q1
          by_cases q2 : p = b
          · have e2 : (p == (b : Int)) = true := eqt q2
            by_cases q3 : q = a
            · have e3 : (q == (a : Int)) = true := eqt q3
              have HN : Hid (m + 1 = comTo wd ht xs a b (k + 1)) := hide (by rw [HY.out, if_pos (.inr ⟨q2, q3⟩), hm.out])
              clear q1 q2 q3
              go_wp2_with fail
              go_roundw
              case rel => exact ⟨k + 1, m + 1, by omega, by go_num, by go_num, HN, by omega, B2⟩
              case measure => simp [intOf]; omega
            · have e3 : (q == (a : Int)) = false := eqf q3
              have HN : Hid (m = comTo wd ht xs a b (k + 1)) := hide (by rw [HY.out, if_neg (by omega), hm.out, Int.add_zero])
              clear q1 q2 q3
              go_wp2_with fail
              go_roundw
              case rel => exact ⟨k + 1, m, by omega, by go_num, rfl, HN, by omega, B2⟩
              case measure => simp [intOf]; omega
          · have e2 : (p == (b : Int)) = false := eqf q2
            have HN : Hid (m = comTo wd ht xs a b (k + 1)) := hide (by rw [HY.out, if_neg (by omega), hm.out, Int.add_zero])
            clear q1 q2
            go_wp2_with fail
            go_roundw
            case rel => exact ⟨k + 1, m, by omega, by go_num, rfl, HN, by omega, B2⟩
            case measure => simp [intOf]; omega
      · have e0 : (x != 0) = true := by simpa using h0
        have HN : Hid (m = comTo wd ht xs a b (k + 1)) := hide (by rw [comTo_no hx h0, hm.out])
        clear hx h0
        go_wp2_with fail
        go_roundw
        case rel => exact ⟨k + 1, m, by omega, by go_num, rfl, HN, by omega, hB⟩
        case measure => simp [intOf]; omega
    · have e1 : k = xs.length := by omega
      have HE : Hid (m = comTo wd ht xs a b xs.length) := hide (by rw [hm.out, e1])
      clear e1
      go_wp2_with fail
      go_ret
      rw [← HE.out]
      exact ⟨rfl, hB⟩
set_option maxHeartbeats 4000000 in
theorem specCommonCrossings_ok (wd ht : Int) (A : Option Addr) (c : Nat) (xs : List Int) (a b : Nat) (w : World) (hxs : RI w A xs) (hv : vldPan wd ht xs = true) (hn : xs.length ≤ 200) (ha : a < cvN wd ht xs) (hb : b < cvN wd ht xs) (hab : a ≠ b) :
    Calls Try.prog 17 #[.agg #[.int .i64 wd, .int .i64 ht, .slice A xs.length c], .int .i64 (a : Int), .int .i64 (b : Int)] w (RetV w (.tuple #[.int .i64 (comTo wd ht xs a b xs.length), .int .i64 0])) := by
  obtain ⟨hs, hl⟩ := vld_sz hv
  have hcn := cvN_le hv
  have e1 : ((a : Int) == (b : Int)) = false := eqf (by omega)
  have hpa : PA (w.alloc (.cells #[.int .i64 wd, .int .i64 ht, .slice A xs.length c] 26)) w.heap.size wd ht A c xs := ⟨(Bx.new_ w (w.heap.size) 26 #[.int .i64 wd, .int .i64 ht, .slice A xs.length c] (by simp)), hxs.below ((Below.refl w.heap.size w).alloc (by first | omega | (simp; omega) | simp) (.cells #[.int .i64 wd, .int .i64 ht, .slice A xs.length c] 26))⟩
  have HCA := hide (fun (W : World) (hb : Below ((w.alloc (.cells #[.int .i64 wd, .int .i64 ht, .slice A xs.length c] 26))).heap.size (w.alloc (.cells #[.int .i64 wd, .int .i64 ht, .slice A xs.length c] 26)) W) => l04CodeOf_ok w.heap.size wd ht A c xs a W (hpa.below hb) hv (by omega) ha)
  have HCB := hide (fun (W : World) (hb0 : Below ((w.alloc (.cells #[.int .i64 wd, .int .i64 ht, .slice A xs.length c] 26))).heap.size (w.alloc (.cells #[.int .i64 wd, .int .i64 ht, .slice A xs.length c] 26)) W) => l04CodeOf_ok w.heap.size wd ht A c xs b W (hpa.below hb0) hv (by omega) hb)
  have HCR := hide (fun (W : World) (B : Option Addr) (d : Nat) (hb : Below ((w.alloc (.cells #[.int .i64 wd, .int .i64 ht, .slice A xs.length c] 26))).heap.size (w.alloc (.cells #[.int .i64 wd, .int .i64 ht, .slice A xs.length c] 26)) W) (ho : RI W B (ownL wd ht xs)) => l04Cross_ok w.heap.size wd ht A B c d xs a b W (hpa.below hb) hs hl hn ho hab)
  have hcb := comTo_bound (wd := wd) (ht := ht) (xs := xs) a b xs.length
  obtain ⟨m, hm⟩ : ∃ m, m = comTo wd ht xs a b xs.length := ⟨_, rfl⟩
  rw [← hm] at HCR hcb ⊢
  have HB0 := hide ((Below.refl w.heap.size w).alloc (by first | omega | (simp; omega) | simp) (.cells #[.int .i64 wd, .int .i64 ht, .slice A xs.length c] 26))
  clear hpa hm hs hl ha hb hab
  go_enter Try.func17, Try.ntmps17
  go_wp2_with fail
  refine (HCA.out _ (Below.refl _ _)).mono ?_
  rintro e w1 ⟨A1, c1, rfl, own1, hb1⟩
  have B1 := HB0.out.trans (hb1.mono (by simp))
  go_wp2_with fail
  refine (HCB.out _ hb1).mono ?_
  rintro e w2 ⟨A2, c2, rfl, own2, hb2⟩
  have own3 := hide (own1.below hb2)
  have hb3 := hb1.trans (hb2.mono hb1.size)
  have B2 := B1.trans (hb2.mono B1.size)
  clear own1 own2
  go_wp2_with fail
  refine (HCR.out _ _ _ hb3 own3.out.rd).mono ?_
  rintro e w4 ⟨rfl, hb4⟩
  go_wp2_with fail
  go_ret2
  exact ⟨rfl, B2.trans (hb4.mono B2.size)⟩
end Go.Proofs.Ytmjeafklafjakaa
