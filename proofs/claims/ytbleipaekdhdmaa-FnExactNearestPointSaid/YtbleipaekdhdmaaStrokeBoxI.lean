/-
  Contract: the box of a stroke, as the program makes it. Conditions: none beyond the lengths.
-/
import Derived.Test.YtbleipaekdhdmaaStrokeBox
namespace Go.Proofs.Ytbleipaekdhdmaa
open Go.RowKit
set_option linter.unusedVariables false

theorem min_eq (a b : Int) : (if b < a then b else a) = lowP a b := by
  unfold lowP
  by_cases h1 : a < b
  · rw [if_pos h1, if_neg (by omega)]
  · rw [if_neg h1]
    by_cases h2 : b < a
    · rw [if_pos h2]
    · rw [if_neg h2]; omega
theorem max_eq (a b : Int) : (if a < b then b else a) = highP a b := by
  unfold highP
  by_cases h1 : b < a
  · rw [if_pos h1, if_neg (by omega)]
  · rw [if_neg h1]
    by_cases h2 : a < b
    · rw [if_pos h2]
    · rw [if_neg h2]; omega

set_option maxHeartbeats 4000000 in
theorem boxOf_any (A : Option Addr) (c : Nat) (ps : List (Int × Int)) (w : World) (h : RP w A ps) (hn : ps.length ≤ 1048576) (hpos : 0 < ps.length) :
    Calls Try.prog 40 #[.slice A ps.length c] w (RetV w (.tuple #[.agg #[.int .i64 (boxS ps).1.1, .int .i64 (boxS ps).1.2], .agg #[.int .i64 (boxS ps).2.1, .int .i64 (boxS ps).2.2]])) := by
  obtain ⟨b, off, x0, y0, rfl, hb, hx, hc0, hd0⟩ := h.at_ hpos
  have hc : w.cell? ⟨b, off, none⟩ = some (.int .i64 x0) := by simpa using hc0
  have hd : w.cell? ⟨b, off + 1, none⟩ = some (.int .i64 y0) := by simpa using hd0
  have hq := headD_at hx
  have HF := hide (show boxS ps = ps.foldl stepB ((x0, y0), (x0, y0)) by unfold boxS; rw [hq])
  clear hx hc0 hd0 hq
  have e3 : (((w.alloc (.cells #[.int .i64 0, .int .i64 0] 30)).alloc (.cells #[.int .i64 0, .int .i64 0] 30))).cell? ⟨b, off, none⟩ = some (.int .i64 x0) := (Below.cell (p := ⟨b, off, none⟩) (((Below.refl w.heap.size w).alloc (by first | omega | (simp; omega) | simp) (.cells #[.int .i64 0, .int .i64 0] 30)).alloc (by first | omega | (simp; omega) | simp) (.cells #[.int .i64 0, .int .i64 0] 30)) hb).trans hc
  have e4 : (((w.alloc (.cells #[.int .i64 0, .int .i64 0] 30)).alloc (.cells #[.int .i64 0, .int .i64 0] 30))).cell? ⟨b, off + 1, none⟩ = some (.int .i64 y0) := (Below.cell (p := ⟨b, off + 1, none⟩) (((Below.refl w.heap.size w).alloc (by first | omega | (simp; omega) | simp) (.cells #[.int .i64 0, .int .i64 0] 30)).alloc (by first | omega | (simp; omega) | simp) (.cells #[.int .i64 0, .int .i64 0] 30)) hb).trans hd
  have hB := (((Below.refl w.heap.size w).alloc (by first | omega | (simp; omega) | simp) (.cells #[.int .i64 0, .int .i64 0] 30)).alloc (by first | omega | (simp; omega) | simp) (.cells #[.int .i64 0, .int .i64 0] 30))
  have e5 : ∀ o, ((((w.alloc (.cells #[.int .i64 0, .int .i64 0] 30)).alloc (.cells #[.int .i64 0, .int .i64 0] 30))).alloc o).cell? ⟨b, off, none⟩ = some (.int .i64 x0) := fun o => (Below.cell (p := ⟨b, off, none⟩) (hB.alloc (by simp; omega) o) hb).trans hc
  have e6 : ∀ o, ((((w.alloc (.cells #[.int .i64 0, .int .i64 0] 30)).alloc (.cells #[.int .i64 0, .int .i64 0] 30))).alloc o).cell? ⟨b, off + 1, none⟩ = some (.int .i64 y0) := fun o => (Below.cell (p := ⟨b, off + 1, none⟩) (hB.alloc (by simp; omega) o) hb).trans hd
  have e7 : ∀ o o', (((((w.alloc (.cells #[.int .i64 0, .int .i64 0] 30)).alloc (.cells #[.int .i64 0, .int .i64 0] 30))).alloc o).alloc o').cell? ⟨b, off, none⟩ = some (.int .i64 x0) := fun o o' => (Below.cell (p := ⟨b, off, none⟩) ((hB.alloc (by simp; omega) o).alloc (by simp; omega) o') hb).trans hc
  have e8 : ∀ o o', (((((w.alloc (.cells #[.int .i64 0, .int .i64 0] 30)).alloc (.cells #[.int .i64 0, .int .i64 0] 30))).alloc o).alloc o').cell? ⟨b, off + 1, none⟩ = some (.int .i64 y0) := fun o o' => (Below.cell (p := ⟨b, off + 1, none⟩) ((hB.alloc (by simp; omega) o).alloc (by simp; omega) o') hb).trans hd
  have q2 := ((Bx.new_ w (w.heap.size) 30 #[.int .i64 0, .int .i64 0] (by simp)).alloc (.cells #[.int .i64 0, .int .i64 0] 30))
  have q3 := (Bx.new_ (w.alloc (.cells #[.int .i64 0, .int .i64 0] 30)) (w.heap.size + 1) 30 #[.int .i64 0, .int .i64 0] (by simp))
  go_enter Try.func40, Try.ntmps40
  go_upto_region 1 with fail
  go_cut [4, 5] (fun s4 s5 wx => ∃ (G4 G5 : Nat), s4 = .pointer (some ⟨G4, 0, none⟩) ∧ s5 = .pointer (some ⟨G5, 0, none⟩) ∧ G4 ≠ G5 ∧ w.heap.size + 1 < G4 ∧ w.heap.size + 1 < G5 ∧ Bx wx G4 30 #[.int .i64 x0, .int .i64 y0] ∧ Bx wx G5 30 #[.int .i64 x0, .int .i64 y0] ∧ Bx wx (w.heap.size) 30 #[.int .i64 0, .int .i64 0] ∧ Bx wx (w.heap.size + 1) 30 #[.int .i64 0, .int .i64 0] ∧ Below w.heap.size w wx)
  case first =>
    go_region
    all_goals go_wp2_with fail
    all_goals go_meet
    all_goals first
      | exact ⟨w.heap.size + 1 + 1, w.heap.size + 1 + 1 + 1, rfl, rfl, by omega, by omega, by omega, ((Bx.new_ _ _ _ _ (by simp)).alloc _).drew, (Bx.new_ _ _ _ _ (by simp)).drew, ((q2.alloc _).alloc _).drew, ((q3.alloc _).alloc _).drew, ((hB.alloc (by simp; omega) _).alloc (by simp; omega) _).drew⟩
      | exact ⟨w.heap.size + 1 + 1 + 1, w.heap.size + 1 + 1, rfl, rfl, by omega, by omega, by omega, (Bx.new_ _ _ _ _ (by simp)).drew, ((Bx.new_ _ _ _ _ (by simp)).alloc _).drew, ((q2.alloc _).alloc _).drew, ((q3.alloc _).alloc _).drew, ((hB.alloc (by simp; omega) _).alloc (by simp; omega) _).drew⟩
  case rest =>
    clear q2 q3 hB e3 e4 e5 e6 e7 e8
    obtain ⟨G4, G5, rfl, rfl, hne, hg4, hg5, p4, p5, p2, p3, hB⟩ := hcut
    go_wp2_with fail
    go_loopw [16] (fun i wr => ∃ (k : Nat) (lx ly hx hy : Int), k ≤ ps.length ∧ i = .int .i64 k ∧ Hid (((lx, ly), (hx, hy)) = (ps.take k).foldl stepB ((x0, y0), (x0, y0))) ∧
      Bx wr G4 30 #[.int .i64 lx, .int .i64 ly] ∧ Bx wr G5 30 #[.int .i64 hx, .int .i64 hy] ∧ Bx wr (w.heap.size) 30 #[.int .i64 0, .int .i64 0] ∧ Bx wr (w.heap.size + 1) 30 #[.int .i64 0, .int .i64 0] ∧ Below w.heap.size w wr) (fun i _ => ps.length - (intOf i).toNat)
    case atStart => exact ⟨0, x0, y0, x0, y0, Nat.zero_le _, rfl, hide rfl, p4, p5, p2, p3, hB⟩
    case round =>
      clear p4 p5 p2 p3 hB
      obtain ⟨k, lx, ly, hx, hy, hk, rfl, hbx, p4, p5, p2, p3, hB⟩ := hrel
      have z := hB.size
      have hp4 := p4.lt
      have hp5 := p5.lt
      have hr := h.below hB
      by_cases hlt : k < ps.length
      · obtain ⟨b', off', x, y, hA, hb', hxy, hce, hde⟩ := hr.at_ hlt
        injection hA with hA
        injection hA with e1 e2
        subst e1 e2
        have HT : Hid (((lowP lx x, lowP ly y), (highP hx x, highP hy y)) = (ps.take (k + 1)).foldl stepB ((x0, y0), (x0, y0))) := by
          show _ = _
          rw [fold_next hxy, ← hbx.out]
          rfl
        have m1 := min_eq lx x
        have m2 := min_eq ly y
        have m3 := max_eq hx x
        have m4 := max_eq hy y
        have hne' := hne.symm
        have u4 := p4.alloc (.cells #[.int .i64 x, .int .i64 y] 30)
        have u5 := p5.alloc (.cells #[.int .i64 x, .int .i64 y] 30)
        obtain ⟨u4a, u4b⟩ := u4.two
        obtain ⟨u5a, u5b⟩ := u5.two
        have u4f := u4.frozen 0
        have u4g := u4.frozen 1
        have u5f := u5.frozen 0
        have u5g := u5.frozen 1
        have v5 : Bx (((wr.setCell ⟨G4, 0, none⟩ (.int .i64 (lowP lx x))).setCell ⟨G4, 1, none⟩ (.int .i64 (lowP ly y))).alloc (.cells #[.int .i64 x, .int .i64 y] 30)) G5 30 #[.int .i64 hx, .int .i64 hy] := ((p5.far hne' _).far hne' _).alloc _
        obtain ⟨v5a, v5b⟩ := v5.two
        have s1 : Bx ((wr.setCell ⟨G4, 0, none⟩ (.int .i64 (lowP lx x))).alloc (.cells #[.int .i64 x, .int .i64 y] 30)) G4 30 #[.int .i64 (lowP lx x), .int .i64 ly] := (p4.set_ 0 _).alloc _
        obtain ⟨s1a, s1b⟩ := s1.two
        have s1f := s1.frozen 1
        have t1 : Bx ((((wr.setCell ⟨G4, 0, none⟩ (.int .i64 (lowP lx x))).setCell ⟨G4, 1, none⟩ (.int .i64 (lowP ly y))).setCell ⟨G5, 0, none⟩ (.int .i64 (highP hx x))).alloc (.cells #[.int .i64 x, .int .i64 y] 30)) G5 30 #[.int .i64 (highP hx x), .int .i64 hy] := (((p5.far hne' _).far hne' _).set_ 0 _).alloc _
        obtain ⟨t1a, t1b⟩ := t1.two
        have t1f := t1.frozen 1
        have v5f := v5.frozen 0
        have v5g := v5.frozen 1
        clear hxy hbx HF
        go_wp2_with fail
        go_roundw
        case rel => exact ⟨k + 1, _, _, _, _, by omega, by go_num, HT, ((((p4.set_ 0 _).set_ 1 _).far hne _).far hne _).alloc _, ((((p5.far hne' _).far hne' _).set_ 0 _).set_ 1 _).alloc _, ((((p2.far (by simp; omega) _).far (by simp; omega) _).far (by simp; omega) _).far (by simp; omega) _).alloc _, ((((p3.far (by simp; omega) _).far (by simp; omega) _).far (by simp; omega) _).far (by simp; omega) _).alloc _, ((((hB.setCell (by simp; omega) _).setCell (by simp; omega) _).setCell (by simp; omega) _).setCell (by simp; omega) _).alloc (by simp; omega) _⟩
        case measure => simp [intOf]; omega
      · obtain ⟨p4a, p4b⟩ := p4.two
        obtain ⟨p5a, p5b⟩ := p5.two
        obtain ⟨p2a, p2b⟩ := p2.two
        obtain ⟨p3a, p3b⟩ := p3.two
        have p2f := p2.frozen 0
        have p2g := p2.frozen 1
        have p3f := p3.frozen 0
        have p3g := p3.frozen 1
        have i1 : G4 ≠ w.heap.size := by omega
        have i2 : G5 ≠ w.heap.size := by omega
        have i3 : G4 ≠ w.heap.size + 1 := by omega
        have i4 : G5 ≠ w.heap.size + 1 := by omega
        rw [show k = ps.length by omega, List.take_of_length_le (Nat.le_refl _)] at hbx
        have HR := hide (HF.out.trans hbx.out.symm)
        clear hbx HF
        go_wp2_with fail
        go_region
        all_goals go_wp2_with fail
        have q2 : Bx ((((wr.setCell ⟨w.heap.size, 0, none⟩ (.int .i64 lx)).setCell ⟨w.heap.size, 1, none⟩ (.int .i64 ly)).setCell ⟨w.heap.size + 1, 0, none⟩ (.int .i64 hx)).setCell ⟨w.heap.size + 1, 1, none⟩ (.int .i64 hy)) w.heap.size 30 #[.int .i64 lx, .int .i64 ly] := (((p2.set_ 0 _).set_ 1 _).far (by simp) _).far (by simp) _
        have q3 : Bx ((((wr.setCell ⟨w.heap.size, 0, none⟩ (.int .i64 lx)).setCell ⟨w.heap.size, 1, none⟩ (.int .i64 ly)).setCell ⟨w.heap.size + 1, 0, none⟩ (.int .i64 hx)).setCell ⟨w.heap.size + 1, 1, none⟩ (.int .i64 hy)) (w.heap.size + 1) 30 #[.int .i64 hx, .int .i64 hy] := (((p3.far (by simp) _).far (by simp) _).set_ 0 _).set_ 1 _
        obtain ⟨q2a, q2b⟩ := q2.two
        obtain ⟨q3a, q3b⟩ := q3.two
        refine bodyPost_ret (v := .tuple #[.agg #[.int .i64 lx, .int .i64 ly], .agg #[.int .i64 hx, .int .i64 hy]]) (by simp [results, Try.results40, go_sem, q2a, q2b, q3a, q3b]) rfl ?_
        rw [HR.out]
        exact ⟨rfl, ((((hB.setCell (by simp) _).setCell (by simp) _).setCell (by simp) _).setCell (by simp) _).drew⟩
end Go.Proofs.Ytbleipaekdhdmaa
