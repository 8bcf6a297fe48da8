/-
  Contracts: the list of a panel's inner points. Conditions: a valid panel's sides and breaks.
-/
import Derived.Test.YtjlifbdaieblpaaGreatPntMath
import Derived.Test.YtjlifbdaieblpaaGreatRowsG
namespace Go.Proofs.YtjlifbdaieblpaaGreat
open Go.RowKit
set_option linter.unusedVariables false
theorem row_next_facts {wd ht x y : Int} (hs : Sz wd ht) (y1 : 1 ≤ y) (y2 : y < 2 * ht) (x1 : 1 + y % 2 ≤ x) (hpar : (x + y) % 2 = 1) (hx : x < 2 * wd) : OnP wd ht x y ∧ ¬ Edge wd ht x y ∧ 0 ≤ numI wd x y ∧ numI wd (x + 2) y = numI wd x y + 1 := by
  obtain ⟨s1, s2, s3, s4⟩ := hs
  refine ⟨by unfold OnP; omega, by unfold Edge; omega, ?_, ?_⟩
  · unfold numI
    rcases eight s1 s2 with rfl | rfl | rfl | rfl | rfl | rfl | rfl | rfl <;> omega
  · unfold numI
    omega
theorem row_turn {wd x y : Int} (s1 : 1 ≤ wd) (s2 : wd ≤ 8) (y1 : 1 ≤ y) (x1 : 2 * wd ≤ x) (x2 : x ≤ 2 * wd + 1) (hpar : (x + y) % 2 = 1) : numI wd x y = numI wd (1 + (y + 1) % 2) (y + 1) := by
  unfold numI
  rcases eight s1 s2 with rfl | rfl | rfl | rfl | rfl | rfl | rfl | rfl <;> omega
theorem num_first (wd : Int) : numI wd 2 1 = 0 := by unfold numI; omega
theorem num_last {wd ht : Int} (hs : Sz wd ht) : numI wd (1 + (2 * ht) % 2) (2 * ht) = innerN wd ht := by
  obtain ⟨s1, s2, s3, s4⟩ := hs
  unfold numI innerN
  rcases eight s1 s2 with rfl | rfl | rfl | rfl | rfl | rfl | rfl | rfl <;> omega
theorem num_le {wd ht x y : Int} (hs : Sz wd ht) (y1 : 1 ≤ y) (y2 : y < 2 * ht) (x2 : x ≤ 2 * wd + 1) (x1 : 0 ≤ x) : numI wd x y ≤ 1000 ∧ -1000 ≤ numI wd x y := by
  obtain ⟨s1, s2, s3, s4⟩ := hs
  unfold numI
  rcases eight s1 s2 with rfl | rfl | rfl | rfl | rfl | rfl | rfl | rfl <;> omega
set_option maxHeartbeats 8000000 in
theorem points_any (wd ht : Int) (A : Option Addr) (c : Nat) (xs : List Int) (w : World) (hs : Sz wd ht) (hl : (xs.length : Int) = innerN wd ht) :
    Calls Tryz.prog 62 #[.agg #[.int .i64 wd, .int .i64 ht, .slice A xs.length c]] w (RetG ptE w (ptsN wd xs.length)) := by
  have HS := hide hs
  have HL := hide hl
  obtain ⟨s1, s2, s3, s4⟩ := hs
  obtain ⟨pa_x1, pb_x1, pc_x1⟩ := (Bx.new_ w (w.heap.size) 26 #[.int .i64 wd, .int .i64 ht, .slice A xs.length c] (by simp)).three
  have hpt := Own.new_ (E := ptE) (w.alloc (.cells #[.int .i64 wd, .int .i64 ht, .slice A xs.length c] 26)) (base := w.heap.size) (w.heap.size + 1) [] #[] (by simp) rfl (by simp) (by simp)
  obtain ⟨pa_x2, pb_x2, pc_x2⟩ := ((Bx.new_ w (w.heap.size) 26 #[.int .i64 wd, .int .i64 ht, .slice A xs.length c] (by simp)).alloc (.cells #[] 77)).three
  have pt0 := (hpt)
  have p0 := ((Bx.new_ w (w.heap.size) 26 #[.int .i64 wd, .int .i64 ht, .slice A xs.length c] (by simp)).alloc (.cells #[] 77))
  have hB0 := (((Below.refl w.heap.size w).alloc (by first | omega | (simp; omega) | simp) (.cells #[.int .i64 wd, .int .i64 ht, .slice A xs.length c] 26)).alloc (by first | omega | (simp; omega) | simp) (.cells #[] 77))
  clear hpt hl
  go_enter Tryz.func62, Tryz.ntmps62
  go_wp2_with fail
  go_loopw [4, 3] (fun yv ov wr => ∃ (y : Nat) (A1 : Option Addr) (c1 : Nat) (m : Nat), 1 ≤ y ∧ (y : Int) ≤ 2 * ht ∧ yv = .int .i64 (y : Int) ∧ ov = .slice A1 m c1 ∧ Hid (numI wd (1 + (y : Int) % 2) y = (m : Int)) ∧ m ≤ 1000 ∧ Own ptE wr w.heap.size A1 c1 (ptsN wd m) ∧ Bx wr w.heap.size 26 #[.int .i64 wd, .int .i64 ht, .slice A xs.length c] ∧ Below w.heap.size w wr) (fun yv _ _ => 40 - (intOf yv).toNat)
  case atStart => exact ⟨1, _, 0, 0, Nat.le_refl _, by omega, rfl, rfl, hide (num_first wd), by omega, pt0, p0, hB0⟩
  case round =>
    clear pt0 p0 hB0 pa_x1 pb_x1 pc_x1 pa_x2 pb_x2 pc_x2
    obtain ⟨y, A1, c1, m, hy1, hy2, rfl, rfl, hm, hm2, own, hp, hB⟩ := hrel
    obtain ⟨wo, rfl⟩ : ∃ wo, wo = wr := ⟨_, rfl⟩
    obtain ⟨pa_0, pb_0, pc_0⟩ := hp.three
    by_cases hlt : (y : Int) < 2 * ht
    · have t1 : Int.tmod (y : Int) 2 = (y : Int) % 2 := Int.tmod_eq_emod_of_nonneg (by omega)
      have t2 : 0 ≤ (y : Int) % 2 ∧ (y : Int) % 2 ≤ 1 := by omega
      have HY := hide (show (1 + (y : Int) % 2 + y) % 2 = 1 by omega)
      go_wp2_with fail
      go_loopw [5, 3] (fun xv ov wr => ∃ (x : Nat) (A1 : Option Addr) (c1 : Nat) (m : Nat), 1 + (y : Int) % 2 ≤ x ∧ (x : Int) ≤ 2 * wd + 1 ∧ Hid (((x : Int) + y) % 2 = 1) ∧ xv = .int .i64 (x : Int) ∧ ov = .slice A1 m c1 ∧ Hid (numI wd x y = (m : Int)) ∧ m ≤ 1000 ∧ Own ptE wr w.heap.size A1 c1 (ptsN wd m) ∧ Bx wr w.heap.size 26 #[.int .i64 wd, .int .i64 ht, .slice A xs.length c] ∧ Below w.heap.size w wr) (fun xv _ _ => 40 - (intOf xv).toNat)
      case atStart => exact ⟨(1 + (y : Int) % 2).toNat, A1, c1, m, by omega, by omega, hide (by have := HY.out; omega), by rw [Int.toNat_of_nonneg (by omega)], rfl, hide (by rw [Int.toNat_of_nonneg (by omega)]; exact hm.out), hm2, own, hp, hB⟩
      case round =>
        clear own hp hB pa_0 pb_0 pc_0 hm
        obtain ⟨x, A1, c1, m, hx1, hx2, hpar, rfl, rfl, hm, hm2, own, hp, hB⟩ := hrel
        have hz := hB.size
        have hpl := hp.lt
        obtain ⟨pa_0, pb_0, pc_0⟩ := hp.three
        by_cases hlt2 : (x : Int) < 2 * wd
        · obtain ⟨f1, f2, f3, f4⟩ := row_next_facts HS.out (by omega) hlt hx1 hpar.out hlt2
          have hpq := pnt_num HS.out f1 f2 hm.out
          have HN : Hid (ptsN wd (m + 1) = ptsN wd m ++ [((x : Int), (y : Int))]) := hide (by rw [ptsN_next, hpq])
          have HM : Hid (numI wd ((x : Int) + 2) y = ((m + 1 : Nat) : Int)) := hide (by rw [f4, hm.out]; rfl)
          have hnl := num_le (x := (x : Int) + 2) HS.out (show 1 ≤ (y : Int) by omega) hlt (by omega) (by omega)
          have hm3 : m + 1 ≤ 1000 := by have h := HM.out; omega
          have HP2 : Hid (((x : Int) + 2 + y) % 2 = 1) := hide (by have := hpar.out; omega)
          have HLEN : Hid ((ptsN wd m).length = m) := hide (ptsN_len _ _)
          clear f1 f2 f3 f4 hpq hnl
          go_wp2_with (at_builtin; refine wpList_append_row ptE rfl (.tmp 24) (.tmp 28) rfl w.heap.size A1 c1 (ptsN wd m) (by rw [HLEN.out]; rfl) (own.alloc _) (some ⟨wr.heap.size, 0, none⟩) 1 [((x : Int), (y : Int))] rfl (RG.fresh (E := ptE) _ _ rfl _ #[.int .i64 (x : Int), .int .i64 (y : Int)] rfl _) (by rw [HLEN.out]; simp; omega) (by rw [HLEN.out]; simp [ptE]; omega) (by simp; omega) (ptsN wd (m + 1)) HN.out ?_; intro A3 c3 w3 own3 hg3 hb3)
          have hp3 := (hp.alloc (.cells #[.int .i64 (x : Int), .int .i64 (y : Int)] 77)).grownG (own.alloc _) (by decide) hg3
          go_roundw
          case rel => exact ⟨x + 2, A3, c3, m + 1, by omega, by omega, by simpa using HP2, by go_num, by simp [ptsN_len], by simpa using HM, hm3, own3, hp3, (hB.alloc hz _).grown hg3 (by simp; omega) (fun q hq => (own.ge hq).1)⟩
          case measure => simp [intOf]; omega
        · have HT : Hid (numI wd (1 + ((y : Int) + 1) % 2) ((y : Int) + 1) = (m : Int)) := hide (by rw [← row_turn s1 s2 (by omega) (by omega) hx2 hpar.out]; exact hm.out)
          clear hm hpar
          go_wp2_with fail
          go_roundw
          case rel => exact ⟨y + 1, A1, c1, m, by omega, by omega, by go_num, rfl, by simpa using HT, hm2, own, hp, hB⟩
          case measure => simp [intOf]; omega
    · have hye : (y : Int) = 2 * ht := by omega
      have HM : Hid (m = xs.length) := hide (by
        have h := hm.out
        rw [hye, num_last HS.out, ← HL.out] at h
        omega)
      clear hye hm
      go_wp2_with fail
      go_ret
      exact ⟨A1, c1, by rw [ptsN_len, HM.out]; rfl, by rw [← HM.out]; exact own, hB⟩
end Go.Proofs.YtjlifbdaieblpaaGreat
