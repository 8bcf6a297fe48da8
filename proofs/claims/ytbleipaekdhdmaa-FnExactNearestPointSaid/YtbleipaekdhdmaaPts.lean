/-
  Contracts of the laws' helpers over points and lists of points. Conditions: the lengths are far below the machine's.
-/
import Derived.Test.YtbleipaekdhdmaaPtsOwn
namespace Go.Proofs.Ytbleipaekdhdmaa
open Go.RowKit
set_option linter.unusedVariables false

theorem info_point : (Try.prog.info? 30).map (fun i => (i.zero, i.size, i.bytes)) = some (some (.agg #[.int .i64 0, .int .i64 0]), 2, 16) := by kernel_rfl

/-- A function that hands back a slice of points of its own. -/
def RetPS (w : World) (ps : List (Int × Int)) (e : Ending) (w' : World) : Prop :=
  ∃ A c, e = .returned (.slice A ps.length c) ∧ OwnP w' w.heap.size A c ps ∧ Below w.heap.size w w'

theorem toList_madePts (m : Nat) : (madeCells #[Value.int .i64 0, .int .i64 0] (m * 2)).toList = (List.replicate m ((0, 0) : Int × Int)).flatMap ptC := by
  apply List.ext_getElem?
  intro j
  have hL := flat_at ptC 2 ptC_len (List.replicate m ((0, 0) : Int × Int)) (j / 2) (j % 2) (by omega)
  rw [show j / 2 * 2 + j % 2 = j by omega, List.getElem?_replicate] at hL
  rw [hL, Array.getElem?_toList, madeCells, Array.getElem?_map]
  by_cases h : j < m * 2
  · rw [if_pos (by omega), Array.getElem?_range, if_pos h]
    rcases (show j % 2 = 0 ∨ j % 2 = 1 by omega) with h1 | h1 <;> simp [h1, ptC]
  · rw [if_neg (by omega), Array.getElem?_range, if_neg h]
    rfl
theorem OwnP.made (w : World) {base : Nat} (n : Nat) {m : Nat} (hn : n = w.heap.size) (hb : base ≤ w.heap.size) (hm : m ≤ 9223372036854775807) :
    OwnP (w.alloc (.cells (madeCells #[.int .i64 0, .int .i64 0] (m * 2)) 30)) base (some ⟨n, 0, none⟩) m (List.replicate m (0, 0)) := by
  subst hn
  have := OwnP.new w (base := base) (List.replicate m (0, 0)) (madeCells #[.int .i64 0, .int .i64 0] (m * 2)) (toList_madePts m) hb (by simp [maxLen]; omega)
  simpa using this
theorem run_make_pts (n : Nat) (hn : n ≤ 1099511627776) (W : World) :
    (Instr.makeSlice 25 (.int .i64 (n : Int)) (.int .i64 (n : Int))).run Try.prog W = .ok (.slice (some ⟨W.heap.size, 0, none⟩) n n) (W.alloc (.cells (madeCells #[.int .i64 0, .int .i64 0] (n * 2)) 30)) := by
  obtain ⟨i0, hi, hz0, hz1, hz2⟩ := info_parts info_point
  have hr := run_make (P := Try.prog) W 25 30 i0 (.agg #[.int .i64 0, .int .i64 0]) Try.underlying25 hi hz0 .i64 .i64 n n (by omega) (by omega) (by rw [hz2]; omega) (by omega)
  rw [hz1] at hr
  simp only [Int.toNat_natCast] at hr
  exact hr

theorem szPointS_ok (A : Option Addr) (c n : Nat) (left : Int) (w : World) (h : (n : Int) ≤ left) (hl : left ≤ 1048576) :
    Calls Try.prog 10 #[.slice A n c, .int .i64 left] w (RetV w (.int .i64 (left - n))) := by
  go_enter Try.func10, Try.ntmps10
  go_wp2
  go_ret
  exact ⟨rfl, Below.refl _ _⟩
theorem szPointS_no (A : Option Addr) (c n : Nat) (left : Int) (w : World) (h0 : 0 ≤ left) (h : left < (n : Int)) (hl : n ≤ 9223372036854775807) :
    Calls Try.prog 10 #[.slice A n c, .int .i64 left] w (RetV w (.int .i64 (-1))) := by
  go_enter Try.func10, Try.ntmps10
  go_wp2
  go_ret
  exact ⟨rfl, Below.refl _ _⟩

theorem toPoint_any (x y : Int) (w : World) : Calls Try.prog 31 #[.agg #[.int .i64 x, .int .i64 y]] w (RetV w (.agg #[.int .i64 x, .int .i64 y])) := by
  go_enter Try.func31, Try.ntmps31
  go_wp2
  refine bodyPost_ret (v := .agg #[.int .i64 x, .int .i64 y]) (by simp [results, Try.results31, go_sem]) rfl ⟨rfl, ?_⟩
  exact (((Below.refl _ _).alloc (Nat.le_refl _) _).alloc (by simp) _).alloc (by simp; omega) _

theorem eqPoint_any (x y x' y' : Int) (w : World) : Calls Try.prog 17 #[.agg #[.int .i64 x, .int .i64 y], .agg #[.int .i64 x', .int .i64 y']] w (RetV w (.bool (decide ((x, y) = (x', y'))))) := by
  have hB : Below w.heap.size w ((w.alloc (.cells #[.int .i64 x, .int .i64 y] 30)).alloc (.cells #[.int .i64 x', .int .i64 y'] 30)) := ((Below.refl _ _).alloc (Nat.le_refl _) _).alloc (by simp) _
  by_cases hx : x = x'
  · by_cases hy : y = y'
    · have hd := hide (show decide ((x, y) = (x', y')) = true by simp [hx, hy])
      have h1 : (x != x') = false := by simp [hx]
      have h2 : (y != y') = false := by simp [hy]
      clear hx hy
      go_enter Try.func17, Try.ntmps17
      go_wp2
      go_ret
      rw [hd.out]
      exact ⟨rfl, hB⟩
    · have hd := hide (show decide ((x, y) = (x', y')) = false by simp [hy])
      have h1 : (x != x') = false := by simp [hx]
      have h2 : (y != y') = true := by simpa using hy
      clear hx hy
      go_enter Try.func17, Try.ntmps17
      go_wp2
      go_ret
      rw [hd.out]
      exact ⟨rfl, hB⟩
  · have hd := hide (show decide ((x, y) = (x', y')) = false by simp [hx])
    have h1 : (x != x') = true := by simpa using hx
    clear hx
    go_enter Try.func17, Try.ntmps17
    go_wp2
    go_ret
    rw [hd.out]
    exact ⟨rfl, hB⟩

theorem take_set_nextP {α : Type} (xs ys : List α) (k : Nat) (x : α) (hx : xs[k]? = some x) (hy : ys.length = xs.length) (ht : ys.take k = xs.take k) :
    (ys.set k x).take (k + 1) = xs.take (k + 1) := by
  have hk : k < xs.length := (List.getElem?_eq_some_iff.1 hx).1
  rw [List.take_add_one, List.take_add_one, List.getElem?_set_self (by omega), List.take_set_of_le (Nat.le_refl _), ht, hx]

set_option maxHeartbeats 1000000 in
theorem toPointS_any (A : Option Addr) (c : Nat) (ps : List (Int × Int)) (w : World) (h : RP w A ps) (hn : ps.length ≤ 1048576) :
    Calls Try.prog 12 #[.slice A ps.length c] w (RetPS w ps) := by
  have hmk := fun W : World => run_make_pts ps.length (by omega) W
  have hnew : OwnP (w.alloc (.cells (madeCells #[.int .i64 0, .int .i64 0] (ps.length * 2)) 30)) w.heap.size (some ⟨w.heap.size, 0, none⟩) ps.length (List.replicate ps.length (0, 0)) := OwnP.made w _ rfl (Nat.le_refl _) (by omega)
  go_enter Try.func12, Try.ntmps12
  go_wp2
  go_loopw [4] (fun i wr => ∃ (k : Nat) (qs : List (Int × Int)), k ≤ ps.length ∧ i = .int .i64 k ∧ Hid (qs.length = ps.length) ∧ Hid (qs.take k = ps.take k) ∧
      OwnP wr w.heap.size (some ⟨w.heap.size, 0, none⟩) ps.length qs ∧ Below w.heap.size w wr)
    (fun i _ => ps.length - (intOf i).toNat)
  case atStart => exact ⟨0, _, Nat.zero_le _, rfl, hide (by simp), hide (by simp), hnew, (Below.refl _ _).alloc (Nat.le_refl _) _⟩
  case round =>
    obtain ⟨k, qs, hk, rfl, hyl, hyt, own, hB⟩ := hrel
    have hr := h.below hB
    by_cases hlt : k < ps.length
    · obtain ⟨b, off, x, y, rfl, hb, hx, hc, hd⟩ := hr.at_ hlt
      have hz := hB.size
      go_wp2_with fail
      refine (toPoint_any x y _).mono ?_
      rintro e w2 ⟨rfl, hb2⟩
      have own2 := own.below hb2
      have hB2 := hB.trans (hb2.mono hz)
      have hql := hyl.out
      obtain ⟨g, u, v, hg, hgb, hgs, hu, hgc, hgd, hf0, hf1, hsx, hsy⟩ := own2.at_ (k := k) (by omega)
      injection hg with hg; injection hg with hg; subst hg
      obtain ⟨o1, g1⟩ := hsx x
      obtain ⟨g', u', v', hg', _, _, hu', _, _, _, _, _, hsy2⟩ := o1.at_ (k := k) (by rw [List.length_set]; omega)
      injection hg' with hg'; injection hg' with hg'; subst hg'
      rw [List.getElem?_set_self (by omega)] at hu'
      injection hu' with hu'; injection hu' with e1 e2
      subst e1 e2
      obtain ⟨o2, g2⟩ := hsy2 y
      rw [List.set_set] at o2
      have HT : Hid ((qs.set k (x, y)).take (k + 1) = ps.take (k + 1)) := hide (take_set_nextP ps qs k _ hx hql hyt.out)
      have HY : Hid ((qs.set k (x, y)).length = ps.length) := hide (by rw [List.length_set]; exact hql)
      have HB := hide (below_own (below_own hB2 g1 (by have := hB2.size; omega) (Nat.le_refl _)) g2 (by have := (below_own hB2 g1 (by have := hB2.size; omega) (Nat.le_refl _)).size; omega) (Nat.le_refl _))
      have HO := hide o2
      clear hsx hsy hsy2 o1 o2 g1 g2 hyt hyl hql hx hu
      go_wp2_with fail
      go_roundw
      case rel => exact ⟨k + 1, _, by omega, by go_num, HY, HT, HO.out, HB.out⟩
      case measure => simp [intOf]; omega
    · go_wp2
      go_ret
      have hkk : k = ps.length := by omega
      have hyt' := hyt.out
      have hyl' := hyl.out
      rw [hkk, List.take_of_length_le (by omega), List.take_of_length_le (Nat.le_refl _)] at hyt'
      subst hyt'
      exact ⟨_, _, rfl, own, hB⟩

theorem take_eq_allP {α : Type} {xs ys : List α} {k : Nat} (hl : xs.length = ys.length) (hk : k = xs.length) (h : xs.take k = ys.take k) : xs = ys := by
  rw [hk, List.take_of_length_le (Nat.le_refl _), List.take_of_length_le (by omega)] at h
  exact h
theorem take_eq_nextP {α : Type} {xs ys : List α} {k : Nat} {x : α} (hx : xs[k]? = some x) (hy : ys[k]? = some x) (h : xs.take k = ys.take k) : xs.take (k + 1) = ys.take (k + 1) := by
  rw [List.take_add_one, List.take_add_one, h, hx, hy]
theorem ne_atP {α : Type} [DecidableEq α] {xs ys : List α} {k : Nat} {x y : α} (hx : xs[k]? = some x) (hy : ys[k]? = some y) (h : x ≠ y) : decide (xs = ys) = false := by
  apply decide_eq_false
  intro e
  rw [e, hy] at hx
  injection hx with hx
  exact h hx.symm
theorem ne_lenP {α : Type} [DecidableEq α] {xs ys : List α} (h : xs.length ≠ ys.length) : decide (xs = ys) = false := by
  apply decide_eq_false
  intro e
  exact h (by rw [e])

set_option maxHeartbeats 1000000 in
theorem eqPointS_any (A B : Option Addr) (c d : Nat) (ps qs : List (Int × Int)) (w : World) (hA : RP w A ps) (hB : RP w B qs) (hn : ps.length ≤ 1048576) (hm : qs.length ≤ 1048576) :
    Calls Try.prog 14 #[.slice A ps.length c, .slice B qs.length d] w (RetV w (.bool (decide (ps = qs)))) := by
  by_cases hl : ps.length = qs.length
  · have HL := hide hl
    have hnm : ((ps.length : Int) != (qs.length : Int)) = false := by simp [hl]
    clear hl
    go_enter Try.func14, Try.ntmps14
    go_wp2
    go_loopw [5] (fun i wr => ∃ (k : Nat), k ≤ ps.length ∧ i = .int .i64 k ∧ Hid (ps.take k = qs.take k) ∧ Below w.heap.size w wr)
      (fun i _ => ps.length - (intOf i).toNat)
    case atStart => exact ⟨0, Nat.zero_le _, rfl, hide (by simp), Below.refl _ _⟩
    case round =>
      obtain ⟨k, hk, rfl, ht, hbw⟩ := hrel
      by_cases hlt : k < ps.length
      · have hA1 := hA.below hbw
        have hB1 := hB.below hbw
        obtain ⟨b, off, x, y, rfl, hb, hx, hc, hd⟩ := hA1.at_ hlt
        obtain ⟨b', off', x', y', rfl, hb', hx', hc', hd'⟩ := hB1.at_ (k := k) (by have := HL.out; omega)
        have hlt' : (k : Int) < (qs.length : Int) := by have := HL.out; omega
        have hz := hbw.size
        have HX := hide hx
        have HX' := hide hx'
        clear hx hx'
        by_cases hxy : (x, y) = (x', y')
        · have hdd : decide ((x, y) = (x', y')) = true := by simpa using hxy
          have HT := hide (take_eq_nextP HX.out (hxy ▸ HX'.out) ht.out)
          clear hxy
          go_wp2_with fail
          go_region_held3 (fun w' => w'.cell? ⟨b, off + k * 2, none⟩ = some (.int .i64 x) ∧ w'.cell? ⟨b, off + k * 2 + 1, none⟩ = some (.int .i64 y) ∧ w'.cell? ⟨b', off' + k * 2, none⟩ = some (.int .i64 x') ∧ w'.cell? ⟨b', off' + k * 2 + 1, none⟩ = some (.int .i64 y')) (first | exact ⟨hc, hd, hc', hd'⟩ | (rw [hb2.cell (p := ⟨b, off + k * 2, none⟩) hb, hb2.cell (p := ⟨b, off + k * 2 + 1, none⟩) hb, hb2.cell (p := ⟨b', off' + k * 2, none⟩) hb', hb2.cell (p := ⟨b', off' + k * 2 + 1, none⟩) hb']; exact ⟨hc, hd, hc', hd'⟩)) (first | (go_at_call 17; refine (eqPoint_any x y x' y' _).mono ?_; rw [hdd]; rintro e w2 ⟨rfl, hb2⟩))
          all_goals go_wp2_with fail
          all_goals go_roundw
          case rel => exact ⟨k + 1, by omega, by go_num, HT, hbw.drew.trans (hb2.mono hz)⟩
          case measure => simp [intOf]; omega
        · have hdd : decide ((x, y) = (x', y')) = false := by simpa using hxy
          have HN := hide (ne_atP HX.out HX'.out hxy)
          clear hxy
          go_wp2_with fail
          go_region_held3 (fun w' => w'.cell? ⟨b, off + k * 2, none⟩ = some (.int .i64 x) ∧ w'.cell? ⟨b, off + k * 2 + 1, none⟩ = some (.int .i64 y) ∧ w'.cell? ⟨b', off' + k * 2, none⟩ = some (.int .i64 x') ∧ w'.cell? ⟨b', off' + k * 2 + 1, none⟩ = some (.int .i64 y')) (first | exact ⟨hc, hd, hc', hd'⟩ | (rw [hb2.cell (p := ⟨b, off + k * 2, none⟩) hb, hb2.cell (p := ⟨b, off + k * 2 + 1, none⟩) hb, hb2.cell (p := ⟨b', off' + k * 2, none⟩) hb', hb2.cell (p := ⟨b', off' + k * 2 + 1, none⟩) hb']; exact ⟨hc, hd, hc', hd'⟩)) (first | (go_at_call 17; refine (eqPoint_any x y x' y' _).mono ?_; rw [hdd]; rintro e w2 ⟨rfl, hb2⟩))
          all_goals go_wp2_with fail
          go_ret
          rw [HN.out]
          exact ⟨rfl, hbw.drew.trans (hb2.mono hz)⟩
      · go_wp2
        go_ret
        have he : ps = qs := take_eq_allP HL.out (by omega) ht.out
        rw [decide_eq_true he]
        exact ⟨rfl, hbw⟩
  · have HN := hide (ne_lenP hl)
    have hnm : ((ps.length : Int) != (qs.length : Int)) = true := by rw [bne_iff_ne]; omega
    go_enter Try.func14, Try.ntmps14
    go_wp2
    go_ret
    rw [HN.out]
    exact ⟨rfl, Below.refl _ _⟩
end Go.Proofs.Ytbleipaekdhdmaa
