/-
  Contracts: a row turned round; InversePoly, of the reference and of the program. Conditions: none beyond the lengths.
-/
import Derived.Test.YtffiejlfnecanaaPolyMulTop
import Derived.Deep.DeepCutAuto
namespace Go.Proofs.Ytffiejlfnecanaa
open Go.RowKit
set_option linter.unusedVariables false

/-- the row with its first and its last k turned round -/
def revTo (xs : List Int) (k : Nat) : List Int := xs.mapIdx fun j y => if j < k ∨ xs.length - k ≤ j then xs.getD (xs.length - 1 - j) 0 else y
theorem revTo_length (xs : List Int) (k : Nat) : (revTo xs k).length = xs.length := by simp [revTo]
theorem revTo_zero (xs : List Int) : revTo xs 0 = xs := by
  apply List.ext_getElem?
  intro j
  by_cases h : j < xs.length
  · simp only [revTo, List.getElem?_mapIdx, List.getElem?_eq_getElem h, Option.map_some]
    rw [if_neg (by omega)]
  · simp [revTo, h]
theorem revTo_mid {xs : List Int} {k j : Nat} (h1 : k ≤ j) (h2 : j < xs.length - k) : (revTo xs k)[j]? = xs[j]? := by
  simp only [revTo, List.getElem?_mapIdx]
  rw [List.getElem?_eq_getElem (by omega), Option.map_some, if_neg (by omega)]
theorem revTo_next {xs : List Int} {k m : Nat} {x y : Int} (hk : k < m) (hm : m + k + 1 = xs.length) (hx : xs[k]? = some x) (hy : xs[m]? = some y) : ((revTo xs k).set k y).set m x = revTo xs (k + 1) := by
  apply List.ext_getElem?
  intro j
  by_cases hj : m = j
  · subst hj
    rw [List.getElem?_set_self (by rw [List.length_set, revTo_length]; omega)]
    simp only [revTo, List.getElem?_mapIdx, hy, Option.map_some]
    rw [if_pos (by omega), show xs.length - 1 - m = k by omega, getD_of hx]
  · rw [List.getElem?_set_ne hj]
    by_cases hj2 : k = j
    · subst hj2
      rw [List.getElem?_set_self (by rw [revTo_length]; omega)]
      simp only [revTo, List.getElem?_mapIdx, hx, Option.map_some]
      rw [if_pos (by omega), show xs.length - 1 - k = m by omega, getD_of hy]
    · rw [List.getElem?_set_ne hj2]
      simp only [revTo, List.getElem?_mapIdx]
      congr 1
      funext z
      by_cases h1 : j < k ∨ xs.length - k ≤ j
      · rw [if_pos h1, if_pos (by omega)]
      · rw [if_neg h1, if_neg (by omega)]
theorem revTo_end {xs : List Int} {k : Nat} (h : xs.length ≤ 2 * k + 1) : revTo xs k = xs.reverse := by
  apply List.ext_getElem?
  intro j
  by_cases hj : j < xs.length
  · rw [List.getElem?_reverse hj]
    simp only [revTo, List.getElem?_mapIdx, List.getElem?_eq_getElem hj, Option.map_some]
    rw [List.getElem?_eq_getElem (by omega)]
    congr 1
    by_cases h1 : j < k ∨ xs.length - k ≤ j
    · rw [if_pos h1, List.getD_eq_getElem?_getD, List.getElem?_eq_getElem (by omega)]; rfl
    · rw [if_neg h1]
      congr 1
      omega
  · simp [revTo, hj]

theorem grown_drew {a b : World} {r : Option Nat} (h : a.grownBy b r) : a.grownBy b.drew r := ⟨h.os, h.tape, h.output, h.size, h.block⟩

set_option maxHeartbeats 1000000 in
theorem slicesReverse_any (A : Option Addr) (c base : Nat) (xs : List Int) (w : World) (h : OwnI w base A c xs) (hn : xs.length ≤ 1048576) (hb : base ≤ w.heap.size) :
    Calls Try.prog 35 #[.slice A xs.length c] w fun e w' => e = .returned (.tuple #[]) ∧ OwnI w' base A c xs.reverse ∧ w.grownBy w' (blk A) := by
  go_enter Try.func35, Try.ntmps35
  go_wp2
  go_loopw [2, 3] (fun i m wr => ∃ (k : Nat) (ys : List Int), 2 * k ≤ xs.length + 1 ∧ i = .int .i64 k ∧ m = .int .i64 ((xs.length : Int) - 1 - k) ∧ Hid (ys = revTo xs k) ∧ OwnI wr base A c ys ∧ w.grownBy wr (blk A)) (fun i _ _ => xs.length - (intOf i).toNat)
  case atStart => exact ⟨0, xs, by omega, rfl, by simp, hide (by rw [revTo_zero]), h, World.grownBy.refl _ _⟩
  case round =>
    obtain ⟨k, ys, hk, rfl, rfl, hys, own, hg⟩ := hrel
    by_cases hlt : 2 * k + 1 < xs.length
    · obtain ⟨m, hm⟩ : ∃ m : Nat, m + k + 1 = xs.length := ⟨xs.length - k - 1, by omega⟩
      have hm1 : k < m := by omega
      have hx : xs[k]? = some xs[k] := List.getElem?_eq_getElem (by omega)
      have hy : xs[m]? = some xs[m] := List.getElem?_eq_getElem (by omega)
      have hN := revTo_next hm1 hm hx hy
      have hyl : ys.length = xs.length := by rw [hys.out, revTo_length]
      obtain ⟨g, u, rfl, hgb, hgs, hu, hgc, hgf, hst⟩ := own.at_ (k := k) (by omega)
      obtain ⟨g', v, hg', _, _, hv, hgc', hgf', _⟩ := own.at_ (k := m) (by omega)
      injection hg' with hg'
      injection hg' with hg'
      subst hg'
      have hue : u = xs[k] := by
        rw [hys.out, revTo_mid (Nat.le_refl _) (by omega), hx] at hu
        injection hu with hu
        exact hu.symm
      have hve : v = xs[m] := by
        rw [hys.out, revTo_mid (by omega) (by omega), hy] at hv
        injection hv with hv
        exact hv.symm
      obtain ⟨o1, g1⟩ := hst v
      obtain ⟨g2, v2, hg2, _, _, _, _, _, hst2⟩ := o1.at_ (k := m) (by rw [List.length_set]; omega)
      injection hg2 with hg2
      injection hg2 with hg2
      subst hg2
      obtain ⟨o2, g3⟩ := hst2 u
      have HO := hide o2
      have HG := hide (grown_drew (grown_trans hg (grown_trans g1 g3)))
      have HY : Hid ((ys.set k v).set m u = revTo xs (k + 1)) := by
        show _ = _
        rw [hys.out, hue, hve]
        exact hN
      have hm2 : (xs.length : Int) - 1 - (k : Int) = (m : Int) := by omega
      have hyl' := hide hyl
      clear hst hst2 o1 o2 g1 g3 hue hve hN hx hy hu hv hys hm hyl
      go_wp2_with fail
      go_region
      all_goals go_wp2
      all_goals go_roundw
      case rel => exact ⟨k + 1, _, by omega, by go_num, by go_num, HY, HO.out, HG.out⟩
      case measure => simp [intOf]; omega
    · have HE := revTo_end (xs := xs) (k := k) (by omega)
      have hys' := hys.out
      rw [HE] at hys'
      subst hys'
      clear hys HE
      go_wp2

      refine bodyPost_end (results_none rfl _ _ _) rfl ?_
      exact ⟨rfl, own, hg⟩


/-- the polynomial in which all powers have the opposite sign -/
def invPR (l : Int) (xs : List Int) : Int × List Int × Int := if vldP l xs = true then resP (trimS (1 - l - xs.length) xs.reverse) else (0, [], 1)
theorem dropZ_head {x : Int} {t : List Int} (h : x ≠ 0) : dropZ (x :: t) = x :: t := by simp [dropZ, h]
theorem trimS_ends {l : Int} {xs : List Int} (hn : 0 < xs.length) (h0 : xs.getD 0 0 ≠ 0) (h1 : xs.getD (xs.length - 1) 0 ≠ 0) : trimS l xs = (l, xs) := by
  have hd : dropZ xs = xs := by
    cases xs with
    | nil => rfl
    | cons x t => exact dropZ_head (by simpa using h0)
  have hr : rdropZ xs = xs := by
    have hx : xs[xs.length - 1]? = some xs[xs.length - 1] := List.getElem?_eq_getElem (by omega)
    have := rdropZ_stop (xs := xs) (m := xs.length) hn hx (by rw [getD_of hx] at h1; exact h1)
    rwa [List.take_of_length_le (Nat.le_refl _)] at this
  unfold trimS
  rw [hr, hd, if_neg (by intro e; rw [e] at hn; simp at hn)]
  simp
theorem vldP_ends {l : Int} {xs : List Int} (hn : 0 < xs.length) (h : vldP l xs = true) : xs.getD 0 0 ≠ 0 ∧ xs.getD (xs.length - 1) 0 ≠ 0 := by
  unfold vldP at h
  rw [if_neg (by omega)] at h
  simp only [Bool.and_eq_true, bne_iff_ne] at h
  exact h.2.2.2
theorem invPR_some {l : Int} {xs : List Int} (hn : 0 < xs.length) (h : vldP l xs = true) : invPR l xs = resP (-(l + (xs.length : Int) - 1), xs.reverse) := by
  unfold invPR
  rw [if_pos h]
  obtain ⟨h0, h1⟩ := vldP_ends hn h
  have hx0 : xs[0]? = some xs[0] := List.getElem?_eq_getElem hn
  have hx1 : xs[xs.length - 1]? = some xs[xs.length - 1] := List.getElem?_eq_getElem (by omega)
  have e0 : xs.reverse.getD 0 0 = xs.getD (xs.length - 1) 0 := by
    rw [getD_of (xs := xs.reverse) (k := 0) (x := xs[xs.length - 1]) (by rw [List.getElem?_reverse hn]; exact hx1), getD_of hx1]
  have e1 : xs.reverse.getD (xs.reverse.length - 1) 0 = xs.getD 0 0 := by
    rw [List.length_reverse, getD_of (xs := xs.reverse) (k := xs.length - 1) (x := xs[0]) (by rw [List.getElem?_reverse (by omega), show xs.length - 1 - (xs.length - 1) = 0 by omega]; exact hx0), getD_of hx0]
  rw [trimS_ends (by simpa using hn) (by rw [e0]; exact h1) (by rw [e1]; exact h0)]
  congr 2
  omega
theorem invPR_none {l : Int} {xs : List Int} (hn : xs.length = 0) (h : vldP l xs = true) : invPR l xs = (0, [], 0) := by
  unfold invPR
  rw [if_pos h]
  obtain rfl := List.eq_nil_of_length_eq_zero hn
  rfl
theorem invPR_le (l : Int) (xs : List Int) : (invPR l xs).2.1.length ≤ 1048576 := by
  unfold invPR
  split
  · rename_i h
    obtain ⟨_, _, bc, _⟩ := vldP_bounds h
    have := resP_le (trimS (1 - l - xs.length) xs.reverse)
    have h2 := trimS_le (1 - l - xs.length) xs.reverse
    rw [List.length_reverse] at h2
    omega
  · simp

set_option maxHeartbeats 4000000 in
theorem specInversePoly_any (l0 : Int) (A0 : Option Addr) (c0 : Nat) (xs0 : List Int) (w : World) (h0 : RI w A0 xs0) (n0 : xs0.length ≤ 1048576) :
    Calls Try.prog 17 #[.agg #[.int .i64 l0, .slice A0 xs0.length c0]] w (RetPC w (invPR l0 xs0).1 (invPR l0 xs0).2.1 (invPR l0 xs0).2.2) := by
  obtain ⟨p0a_t, p0b_t⟩ := ((Bx.new_ w (w.heap.size) 26 #[.int .i64 l0, .slice A0 xs0.length c0] (by simp)).alloc (.cells #[.int .i64 0, .slice none 0 0] 26)).two
  have hB := (((Below.refl w.heap.size w).alloc (by first | omega | (simp; omega) | simp) (.cells #[.int .i64 l0, .slice A0 xs0.length c0] 26)).alloc (by first | omega | (simp; omega) | simp) (.cells #[.int .i64 0, .slice none 0 0] 26))
  cases v0 : vldP l0 xs0
  · have HF := hide (show invPR l0 xs0 = (0, [], 1) by unfold invPR; rw [if_neg (by rw [v0]; simp)])
    go_enter Try.func17, Try.ntmps17
    go_wp2_with fail
    refine (l18Ok_any _ _ l0 A0 c0 xs0 _ p0a_t p0b_t (((h0).alloc (.cells #[.int .i64 l0, .slice A0 xs0.length c0] 26)).alloc (.cells #[.int .i64 0, .slice none 0 0] 26)) n0).mono ?_
    rintro e w' ⟨rfl, rfl⟩
    go_wp2_with fail
    refine bodyPost_ret (v := .tuple #[.agg #[.int .i64 0, .slice none 0 0], .int .i64 1]) (by simp [results, Try.results17, go_sem]) rfl ?_
    rw [HF.out]
    exact ⟨none, 0, rfl, OwnI.nil _ _, hB⟩
  · obtain ⟨ba, bb, bc, _⟩ := vldP_bounds v0
    have HF := hide (show invPR l0 xs0 = resP (trimS (1 - l0 - xs0.length) xs0.reverse) by unfold invPR; rw [if_pos v0])
    have own : OwnI (((w.alloc (.cells #[.int .i64 l0, .slice A0 xs0.length c0] 26)).alloc (.cells #[.int .i64 0, .slice none 0 0] 26)).alloc (.cells #[] 2)) w.heap.size (some ⟨w.heap.size + 1 + 1, 0, none⟩) 0 [] := OwnI.empty_ _ _ (by simp) (by simp; omega)
    go_enter Try.func17, Try.ntmps17
    go_wp2_with fail
    refine (l18Ok_any _ _ l0 A0 c0 xs0 _ p0a_t p0b_t (h0.alloc _ |>.alloc _) n0).mono ?_
    rintro e w' ⟨rfl, rfl⟩
    go_wp2_with fail
    go_loopw [4, 5] (fun s i wr => ∃ (k : Nat) (A' : Option Addr) (c' : Nat) (zs : List Int), k ≤ xs0.length ∧ i = .int .i64 ((xs0.length : Int) - 1 - k) ∧ s = .slice A' zs.length c' ∧ Hid (zs = xs0.reverse.take k) ∧ zs.length ≤ xs0.length ∧ OwnI wr w.heap.size A' c' zs ∧ Bx wr (w.heap.size) 26 #[.int .i64 l0, .slice A0 xs0.length c0] ∧ Bx wr (w.heap.size + 1) 26 #[.int .i64 0, .slice none 0 0] ∧ Below w.heap.size w wr) (fun _ i _ => (intOf i + 1).toNat)
    case atStart => exact ⟨0, _, 0, [], Nat.zero_le _, by simp, rfl, hide (by simp), by simp, own, ((Bx.new_ w (w.heap.size) 26 #[.int .i64 l0, .slice A0 xs0.length c0] (by simp)).alloc (.cells #[.int .i64 0, .slice none 0 0] 26)).alloc (.cells #[] 2), (Bx.new_ (w.alloc (.cells #[.int .i64 l0, .slice A0 xs0.length c0] 26)) (w.heap.size + 1) 26 #[.int .i64 0, .slice none 0 0] (by simp)).alloc (.cells #[] 2), (((Below.refl w.heap.size w).alloc (by first | omega | (simp; omega) | simp) (.cells #[.int .i64 l0, .slice A0 xs0.length c0] 26)).alloc (by first | omega | (simp; omega) | simp) (.cells #[.int .i64 0, .slice none 0 0] 26)).alloc (by first | omega | (simp; omega) | simp) (.cells #[] 2)⟩
    case round =>
      clear own hB
      obtain ⟨k, A', c', zs, hk, rfl, rfl, hzs, hzl, own, p0, p2, hB⟩ := hrel
      obtain ⟨p0a_x2, p0b_x2⟩ := (p0).two
      obtain ⟨p2a_x2, p2b_x2⟩ := (p2).two
      have p2f0_x2 := (p2).frozen 0
      have p2f1_x2 := (p2).frozen 1
      have z := hB.size
      have r0 := h0.below hB
      by_cases hlt : k < xs0.length
      · obtain ⟨m, hm⟩ : ∃ m : Nat, (xs0.length : Int) - 1 - (k : Int) = (m : Int) := ⟨xs0.length - 1 - k, by omega⟩
        obtain ⟨b, off, x, rfl, hb, hx, hc⟩ := r0.at_ (k := m) (by omega)
        have HZ : Hid (zs ++ [x] = xs0.reverse.take (k + 1)) := by
          show _ = _
          rw [hzs.out, List.take_add_one, List.getElem?_reverse hlt, show xs0.length - 1 - k = m by omega, hx]
          rfl
        have HL : (zs ++ [x]).length ≤ xs0.length := by
          rw [List.length_append, hzs.out, List.length_take, List.length_reverse, List.length_singleton]
          omega
        have he := own.alloc (.cells #[.int .i64 x] 2)
        have hr : RI (wr.alloc (.cells #[.int .i64 x] 2)) (some ⟨wr.heap.size, 0, none⟩) [x] := (OwnI.new_ (base := wr.heap.size) wr _ rfl [x] #[.int .i64 x] rfl (Nat.le_refl _) (by simp [maxLen])).rd
        have hb1 : Below w.heap.size w (wr.alloc (.cells #[.int .i64 x] 2)) := hB.alloc z _
        have q0 := p0.alloc (.cells #[.int .i64 x] 2)
        have q2 := p2.alloc (.cells #[.int .i64 x] 2)
        obtain ⟨y, hy⟩ : ∃ y, y = zs ++ [x] := ⟨_, rfl⟩
        have hy' := hide hy
        have HL' : y.length ≤ xs0.length := by rw [hy]; exact HL
        rw [← hy] at HZ
        clear hzs hx HL hy
        go_wp2_with (at_builtin; refine wpList_append_ints rfl (.tmp 18) (.tmp 24) rfl w.heap.size _ c' zs rfl he _ 1 [x] rfl hr (by simp; omega) (by simp; omega) y hy'.out ?_; intro A2 c2 w2 ho2 hg2 hb2)
        have P0 := q0.grownOwn he (by decide) hg2
        have P2 := q2.grownOwn he (by decide) hg2
        have B2 := below_mark hb1 he hg2 (Nat.le_refl _) (by simp; omega)
        go_wp2_with fail
        go_roundw
        case rel => exact ⟨k + 1, A2, c2, y, by omega, by go_num, rfl, HZ, HL', ho2, P0, P2, B2⟩
        case measure => simp [intOf]; omega
      · have hk2 : k = xs0.length := by omega
        have hz2 := hzs.out
        rw [hk2, List.take_of_length_le (by simp)] at hz2
        have hzl2 : zs.length = xs0.length := by rw [hz2, List.length_reverse]
        have HF2 := HF.out
        rw [← hz2, ← hzl2] at HF2
        have hle := trimS_le (1 - l0 - zs.length) zs
        have HL : Hid ((trimS (1 - l0 - zs.length) zs).2.length ≤ 1048576) := hide (by omega)
        have hk3 : (xs0.length : Int) - 1 - (k : Int) < 0 := by omega
        have hcc := own.cap_
        have hp2 := p2.lt
        have HFF := hide HF2
        clear hzs hz2 hzl2 HF2 HF hk2 hle
        have HF := HFF
        clear HFF
        go_wp2_with fail
        refine (l18Trim_any (1 - l0 - zs.length) A' c' zs _ own.rd (by omega) (by omega) (by omega) (by omega) (by omega)).mono ?_
        rintro e w3 ⟨A3, c3, rfl, ho, hb3⟩
        have p0_3 := (p0).below hb3
        obtain ⟨p0a_3, p0b_3⟩ := (p0_3).two
        have p2_3 := (p2).below hb3
        obtain ⟨p2a_3, p2b_3⟩ := (p2_3).two
        have p2f0_3 := (p2_3).frozen 0
        have p2f1_3 := (p2_3).frozen 1
        have z_3 : wr.heap.size ≤ w3.heap.size := hb3.size
        have B_3 := (hB).trans (hb3.mono (by first | omega | (simp; omega) | simp))
        have hl := HL.out
        obtain ⟨S, hS⟩ : ∃ S, trimS (1 - l0 - zs.length) zs = S := ⟨_, rfl⟩
        rw [hS] at hl ho HF
        rw [hS]
        obtain ⟨L, X⟩ := S
        have HF2 := HF.out
        have hl2 : X.length ≤ 1048576 := hl
        have ho2 : OwnI w3 _ A3 c3 X := ho
        clear hl ho hS HF HL
        cases v3 : vldP L X
        · have HR := hide (HF2.trans (resP_no (p := (L, X)) v3))
          go_wp2_with fail
          refine (l18Checked_no L A3 c3 X _ ho2.rd hl2 v3).mono ?_
          rintro e w9 ⟨rfl, hb9⟩
          have p0_9 := (p0_3).below hb9
          obtain ⟨p0a_9, p0b_9⟩ := (p0_9).two
          have p2_9 := (p2_3).below hb9
          obtain ⟨p2a_9, p2b_9⟩ := (p2_9).two
          have p2f0_9 := (p2_9).frozen 0
          have p2f1_9 := (p2_9).frozen 1
          have z_9 : w3.heap.size ≤ w9.heap.size := hb9.size
          have B_9 := (B_3).trans (hb9.mono (by first | omega | (simp; omega) | simp))
          go_wp2_with fail
          refine bodyPost_ret (v := .tuple #[.agg #[.int .i64 0, .slice none 0 0], .int .i64 5]) (by simp [results, Try.results17, go_sem, p2a_9, p2b_9]) rfl ?_
          rw [HR.out]
          exact ⟨none, 0, rfl, OwnI.nil _ _, (B_9.setCell (by first | omega | (simp; omega) | simp) _).setCell (by first | omega | (simp; omega) | simp) _⟩
        · have HR := hide (HF2.trans (resP_yes (p := (L, X)) v3))
          go_wp2_with fail
          refine (l18Checked_yes L A3 c3 X _ ho2.rd hl2 v3).mono ?_
          rintro e w9 ⟨rfl, hb9⟩
          have p0_9 := (p0_3).below hb9
          obtain ⟨p0a_9, p0b_9⟩ := (p0_9).two
          have p2_9 := (p2_3).below hb9
          obtain ⟨p2a_9, p2b_9⟩ := (p2_9).two
          have p2f0_9 := (p2_9).frozen 0
          have p2f1_9 := (p2_9).frozen 1
          have ho_9 := (ho2).below hb9
          have z_9 : w3.heap.size ≤ w9.heap.size := hb9.size
          have B_9 := (B_3).trans (hb9.mono (by first | omega | (simp; omega) | simp))
          go_wp2_with fail
          refine bodyPost_ret (v := .tuple #[.agg #[.int .i64 L, .slice A3 X.length c3], .int .i64 0]) (by simp [results, Try.results17, go_sem, p2a_9, p2b_9]) rfl ?_
          rw [HR.out]
          exact ⟨A3, c3, rfl, ((ho_9.setLow (by first | omega | (simp; omega) | simp) _).setLow (by first | omega | (simp; omega) | simp) _).mono (by first | omega | (simp; omega) | simp), (B_9.setCell (by first | omega | (simp; omega) | simp) _).setCell (by first | omega | (simp; omega) | simp) _⟩
end Go.Proofs.Ytffiejlfnecanaa
