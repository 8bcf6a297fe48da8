/-
  Contracts: the box of a stroke, as the reference makes it. Conditions: none beyond the lengths.
-/
import Derived.Test.YtbleipaekdhdmaaStroke1
import Derived.BigRegion
import Derived.Deep.RegionWith
import Derived.Deep.DeepCutAuto
namespace Go.Proofs.Ytbleipaekdhdmaa
open Go.RowKit
set_option linter.unusedVariables false

def lowP (a b : Int) : Int := if a < b then a else b
def highP (a b : Int) : Int := if b < a then a else b
theorem l00MinP_any (a b : Int) (w : World) : Calls Try.prog 61 #[.int .i64 a, .int .i64 b] w fun e w' => e = .returned (.int .i64 (lowP a b)) ∧ w = w' := by
  unfold lowP
  by_cases h1 : a < b
  · rw [if_pos h1]
    go_enter Try.func61, Try.ntmps61
    go_wp2
    go_ret
    exact ⟨rfl, rfl⟩
  · rw [if_neg h1]
    go_enter Try.func61, Try.ntmps61
    go_wp2
    go_ret
    exact ⟨rfl, rfl⟩
theorem l00MaxP_any (a b : Int) (w : World) : Calls Try.prog 44 #[.int .i64 a, .int .i64 b] w fun e w' => e = .returned (.int .i64 (highP a b)) ∧ w = w' := by
  unfold highP
  by_cases h1 : b < a
  · rw [if_pos h1]
    go_enter Try.func44, Try.ntmps44
    go_wp2
    go_ret
    exact ⟨rfl, rfl⟩
  · rw [if_neg h1]
    go_enter Try.func44, Try.ntmps44
    go_wp2
    go_ret
    exact ⟨rfl, rfl⟩

/-- the least and the greatest numbers so far, and one place more -/
def stepB (b : (Int × Int) × (Int × Int)) (p : Int × Int) : (Int × Int) × (Int × Int) := ((lowP b.1.1 p.1, lowP b.1.2 p.2), (highP b.2.1 p.1, highP b.2.2 p.2))
def boxS (ps : List (Int × Int)) : (Int × Int) × (Int × Int) := ps.foldl stepB (ps.headD (0, 0), ps.headD (0, 0))
theorem stepB_self (p : Int × Int) : stepB (p, p) p = (p, p) := by simp [stepB, lowP, highP]
theorem fold_next {ps : List (Int × Int)} {k : Nat} {p : Int × Int} {b0 : (Int × Int) × (Int × Int)} (h : ps[k]? = some p) : (ps.take (k + 1)).foldl stepB b0 = stepB ((ps.take k).foldl stepB b0) p := by
  rw [List.take_add_one, h, List.foldl_append]
  rfl
theorem headD_at {ps : List (Int × Int)} {p : Int × Int} (h : ps[0]? = some p) : ps.headD (0, 0) = p := by
  cases ps with
  | nil => simp at h
  | cons q t => simpa using h

set_option maxHeartbeats 4000000 in
theorem l19Box_any (A : Option Addr) (c : Nat) (ps : List (Int × Int)) (w : World) (h : RP w A ps) (hn : ps.length ≤ 1048576) (hpos : 0 < ps.length) :
    Calls Try.prog 39 #[.slice A ps.length c] w (RetV w (.tuple #[.agg #[.int .i64 (boxS ps).1.1, .int .i64 (boxS ps).1.2], .agg #[.int .i64 (boxS ps).2.1, .int .i64 (boxS ps).2.2]])) := by
  obtain ⟨b, off, x0, y0, rfl, hb, hx, hc0, hd0⟩ := h.at_ hpos
  have hc : w.cell? ⟨b, off, none⟩ = some (.int .i64 x0) := by simpa using hc0
  have hd : w.cell? ⟨b, off + 1, none⟩ = some (.int .i64 y0) := by simpa using hd0
  have hq := headD_at hx
  have HF := hide (show boxS ps = ps.foldl stepB ((x0, y0), (x0, y0)) by unfold boxS; rw [hq])
  have HS := hide (show (((x0, y0), (x0, y0)) : (Int × Int) × (Int × Int)) = (ps.take 1).foldl stepB ((x0, y0), (x0, y0)) by
    rw [fold_next (k := 0) hx]
    exact (stepB_self (x0, y0)).symm)
  clear hx hc0 hd0 hq
  have n2 : b ≠ w.heap.size := by omega
  have n3 : b ≠ w.heap.size + 1 := by omega
  have n4 : b ≠ w.heap.size + 1 + 1 := by omega
  have n5 : b ≠ w.heap.size + 1 + 1 + 1 := by omega
  have e3 : ((((w.alloc (.cells #[.int .i64 0, .int .i64 0] 30)).alloc (.cells #[.int .i64 0, .int .i64 0] 30)).alloc (.cells #[.int .i64 x0, .int .i64 y0] 30))).cell? ⟨b, off, none⟩ = some (.int .i64 x0) := (Below.cell (p := ⟨b, off, none⟩) ((((Below.refl w.heap.size w).alloc (by first | omega | (simp; omega) | simp) (.cells #[.int .i64 0, .int .i64 0] 30)).alloc (by first | omega | (simp; omega) | simp) (.cells #[.int .i64 0, .int .i64 0] 30)).alloc (by first | omega | (simp; omega) | simp) (.cells #[.int .i64 x0, .int .i64 y0] 30)) hb).trans hc
  have e4 : ((((w.alloc (.cells #[.int .i64 0, .int .i64 0] 30)).alloc (.cells #[.int .i64 0, .int .i64 0] 30)).alloc (.cells #[.int .i64 x0, .int .i64 y0] 30))).cell? ⟨b, off + 1, none⟩ = some (.int .i64 y0) := (Below.cell (p := ⟨b, off + 1, none⟩) ((((Below.refl w.heap.size w).alloc (by first | omega | (simp; omega) | simp) (.cells #[.int .i64 0, .int .i64 0] 30)).alloc (by first | omega | (simp; omega) | simp) (.cells #[.int .i64 0, .int .i64 0] 30)).alloc (by first | omega | (simp; omega) | simp) (.cells #[.int .i64 x0, .int .i64 y0] 30)) hb).trans hd
  go_enter Try.func39, Try.ntmps39
  go_wp2_with fail
  go_loopw [6] (fun i wr => ∃ (k : Nat) (lx ly hx hy : Int), 1 ≤ k ∧ k ≤ ps.length ∧ i = .int .i64 k ∧ Hid (((lx, ly), (hx, hy)) = (ps.take k).foldl stepB ((x0, y0), (x0, y0))) ∧
    Bx wr (w.heap.size + 1 + 1) 30 #[.int .i64 lx, .int .i64 ly] ∧ Bx wr (w.heap.size + 1 + 1 + 1) 30 #[.int .i64 hx, .int .i64 hy] ∧ Bx wr (w.heap.size) 30 #[.int .i64 0, .int .i64 0] ∧ Bx wr (w.heap.size + 1) 30 #[.int .i64 0, .int .i64 0] ∧ Below w.heap.size w wr) (fun i _ => ps.length - (intOf i).toNat)
  case atStart => exact ⟨1, x0, y0, x0, y0, Nat.le_refl _, hpos, rfl, HS, ((Bx.new_ ((w.alloc (.cells #[.int .i64 0, .int .i64 0] 30)).alloc (.cells #[.int .i64 0, .int .i64 0] 30)) (w.heap.size + 1 + 1) 30 #[.int .i64 x0, .int .i64 y0] (by simp)).alloc (.cells #[.int .i64 x0, .int .i64 y0] 30)), (Bx.new_ (((w.alloc (.cells #[.int .i64 0, .int .i64 0] 30)).alloc (.cells #[.int .i64 0, .int .i64 0] 30)).alloc (.cells #[.int .i64 x0, .int .i64 y0] 30)) (w.heap.size + 1 + 1 + 1) 30 #[.int .i64 x0, .int .i64 y0] (by simp)), (((Bx.new_ w (w.heap.size) 30 #[.int .i64 0, .int .i64 0] (by simp)).alloc (.cells #[.int .i64 0, .int .i64 0] 30)).alloc (.cells #[.int .i64 x0, .int .i64 y0] 30)).alloc (.cells #[.int .i64 x0, .int .i64 y0] 30), ((Bx.new_ (w.alloc (.cells #[.int .i64 0, .int .i64 0] 30)) (w.heap.size + 1) 30 #[.int .i64 0, .int .i64 0] (by simp)).alloc (.cells #[.int .i64 x0, .int .i64 y0] 30)).alloc (.cells #[.int .i64 x0, .int .i64 y0] 30), ((((Below.refl w.heap.size w).alloc (by first | omega | (simp; omega) | simp) (.cells #[.int .i64 0, .int .i64 0] 30)).alloc (by first | omega | (simp; omega) | simp) (.cells #[.int .i64 0, .int .i64 0] 30)).alloc (by first | omega | (simp; omega) | simp) (.cells #[.int .i64 x0, .int .i64 y0] 30)).alloc (by first | omega | (simp; omega) | simp) (.cells #[.int .i64 x0, .int .i64 y0] 30)⟩
  case round =>
    obtain ⟨k, lx, ly, hx, hy, hk1, hk, rfl, hbx, p4, p5, p2, p3, hB⟩ := hrel
    obtain ⟨p2a_x1, p2b_x1⟩ := (p2).two
    have p2f0_x1 := (p2).frozen 0
    have p2f1_x1 := (p2).frozen 1
    obtain ⟨p3a_x1, p3b_x1⟩ := (p3).two
    have p3f0_x1 := (p3).frozen 0
    have p3f1_x1 := (p3).frozen 1
    obtain ⟨p4a_x1, p4b_x1⟩ := (p4).two
    have p4f0_x1 := (p4).frozen 0
    have p4f1_x1 := (p4).frozen 1
    obtain ⟨p5a_x1, p5b_x1⟩ := (p5).two
    have p5f0_x1 := (p5).frozen 0
    have p5f1_x1 := (p5).frozen 1
    have z := hB.size
    have hp5 := p5.lt
    have hr := h.below hB
    by_cases hlt : k < ps.length
    · obtain ⟨b', off', x, y, hA, hb', hxy, hce, hde⟩ := hr.at_ hlt
      injection hA with hA
      injection hA with e1 e2
      subst e1 e2
      have HT : Hid (((lowP lx x, lowP ly y), (highP hx x, highP hy y)) = (ps.take (k + 1)).foldl stepB ((x0, y0), (x0, y0))) := by
        show _ = _
        rw [fold_next hxy, ← hbx.out]
        rfl
      have hcw : w.cell? ⟨b, off + k * 2, none⟩ = some (.int .i64 x) := (hB.cell (p := ⟨b, off + k * 2, none⟩) hb).symm.trans hce
      have hdw : w.cell? ⟨b, off + k * 2 + 1, none⟩ = some (.int .i64 y) := (hB.cell (p := ⟨b, off + k * 2 + 1, none⟩) hb).symm.trans hde
      clear hxy hbx HS HF
      go_upto_region 6 with fail
      go_cut [] (fun wx => Bx wx (w.heap.size + 1 + 1) 30 #[.int .i64 (lowP lx x), .int .i64 (ly)] ∧ Bx wx (w.heap.size + 1 + 1 + 1) 30 #[.int .i64 (hx), .int .i64 (hy)] ∧ Bx wx (w.heap.size) 30 #[.int .i64 0, .int .i64 0] ∧ Bx wx (w.heap.size + 1) 30 #[.int .i64 0, .int .i64 0] ∧ Below w.heap.size w wx)
      case first =>
        go_region_with (first | (go_at_call 61; refine (l00MinP_any _ _ _).mono ?_; rintro e w' ⟨rfl, rfl⟩))
        all_goals go_wp2_with fail
        all_goals go_meet
        all_goals exact ⟨p4.set_ 0 _, p5.far (by simp) _, p2.far (by simp; try omega) _, p3.far (by simp; try omega) _, (hB.setCell (by simp; omega) _).drew⟩
      case rest =>
      clear p4 p5 p2 p3 hB
      obtain ⟨p4, p5, p2, p3, hB⟩ := hcut
      obtain ⟨w6, rfl⟩ : ∃ w6 : World, w6 = wc := ⟨_, rfl⟩
      obtain ⟨p4a6, p4b6⟩ := p4.two
      obtain ⟨p5a6, p5b6⟩ := p5.two
      have p4f6 := p4.frozen 0
      have p4g6 := p4.frozen 1
      have p5f6 := p5.frozen 0
      have p5g6 := p5.frozen 1
      have ce6 : w6.cell? ⟨b, off + k * 2, none⟩ = some (.int .i64 x) := (hB.cell (p := ⟨b, off + k * 2, none⟩) hb).trans hcw
      have de6 : w6.cell? ⟨b, off + k * 2 + 1, none⟩ = some (.int .i64 y) := (hB.cell (p := ⟨b, off + k * 2 + 1, none⟩) hb).trans hdw
      go_upto_region 7 with fail
      go_cut [] (fun wx => Bx wx (w.heap.size + 1 + 1) 30 #[.int .i64 (lowP lx x), .int .i64 (lowP ly y)] ∧ Bx wx (w.heap.size + 1 + 1 + 1) 30 #[.int .i64 (hx), .int .i64 (hy)] ∧ Bx wx (w.heap.size) 30 #[.int .i64 0, .int .i64 0] ∧ Bx wx (w.heap.size + 1) 30 #[.int .i64 0, .int .i64 0] ∧ Below w.heap.size w wx)
      case first =>
        go_region_with (first | (go_at_call 61; refine (l00MinP_any _ _ _).mono ?_; rintro e w' ⟨rfl, rfl⟩))
        all_goals go_wp2_with fail
        all_goals go_meet
        all_goals exact ⟨p4.set_ 1 _, p5.far (by simp) _, p2.far (by simp; try omega) _, p3.far (by simp; try omega) _, (hB.setCell (by simp; omega) _).drew⟩
      case rest =>
      clear p4 p5 p2 p3 hB
      obtain ⟨p4, p5, p2, p3, hB⟩ := hcut
      obtain ⟨w7, rfl⟩ : ∃ w7 : World, w7 = wc := ⟨_, rfl⟩
      obtain ⟨p4a7, p4b7⟩ := p4.two
      obtain ⟨p5a7, p5b7⟩ := p5.two
      have p4f7 := p4.frozen 0
      have p4g7 := p4.frozen 1
      have p5f7 := p5.frozen 0
      have p5g7 := p5.frozen 1
      have ce7 : w7.cell? ⟨b, off + k * 2, none⟩ = some (.int .i64 x) := (hB.cell (p := ⟨b, off + k * 2, none⟩) hb).trans hcw
      have de7 : w7.cell? ⟨b, off + k * 2 + 1, none⟩ = some (.int .i64 y) := (hB.cell (p := ⟨b, off + k * 2 + 1, none⟩) hb).trans hdw
      go_upto_region 8 with fail
      go_cut [] (fun wx => Bx wx (w.heap.size + 1 + 1) 30 #[.int .i64 (lowP lx x), .int .i64 (lowP ly y)] ∧ Bx wx (w.heap.size + 1 + 1 + 1) 30 #[.int .i64 (highP hx x), .int .i64 (hy)] ∧ Bx wx (w.heap.size) 30 #[.int .i64 0, .int .i64 0] ∧ Bx wx (w.heap.size + 1) 30 #[.int .i64 0, .int .i64 0] ∧ Below w.heap.size w wx)
      case first =>
        go_region_with (first | (go_at_call 44; refine (l00MaxP_any _ _ _).mono ?_; rintro e w' ⟨rfl, rfl⟩))
        all_goals go_wp2_with fail
        all_goals go_meet
        all_goals exact ⟨p4.far (by simp) _, p5.set_ 0 _, p2.far (by simp; try omega) _, p3.far (by simp; try omega) _, (hB.setCell (by simp; omega) _).drew⟩
      case rest =>
      clear p4 p5 p2 p3 hB
      obtain ⟨p4, p5, p2, p3, hB⟩ := hcut
      obtain ⟨w8, rfl⟩ : ∃ w8 : World, w8 = wc := ⟨_, rfl⟩
      obtain ⟨p4a8, p4b8⟩ := p4.two
      obtain ⟨p5a8, p5b8⟩ := p5.two
      have p4f8 := p4.frozen 0
      have p4g8 := p4.frozen 1
      have p5f8 := p5.frozen 0
      have p5g8 := p5.frozen 1
      have ce8 : w8.cell? ⟨b, off + k * 2, none⟩ = some (.int .i64 x) := (hB.cell (p := ⟨b, off + k * 2, none⟩) hb).trans hcw
      have de8 : w8.cell? ⟨b, off + k * 2 + 1, none⟩ = some (.int .i64 y) := (hB.cell (p := ⟨b, off + k * 2 + 1, none⟩) hb).trans hdw
      go_wp2_with fail
      go_region_with (first | (go_at_call 44; refine (l00MaxP_any _ _ _).mono ?_; rintro e w' ⟨rfl, rfl⟩))
      all_goals go_wp2_with fail
      all_goals (
        go_roundw
        case rel => exact ⟨k + 1, _, _, _, _, by omega, by omega, by go_num, HT, p4.far (by simp) _, p5.set_ 1 _, p2.far (by simp; try omega) _, p3.far (by simp; try omega) _, (hB.setCell (by simp; omega) _).drew⟩
        case measure => simp [intOf]; omega)
    · rw [show k = ps.length by omega, List.take_of_length_le (Nat.le_refl _)] at hbx
      have HR := hide (HF.out.trans hbx.out.symm)
      clear hbx HS HF
      go_wp2_with fail
      go_region
      all_goals go_wp2_with fail
      have q2 : Bx ((((wr.setCell ⟨w.heap.size, 0, none⟩ (.int .i64 lx)).setCell ⟨w.heap.size, 1, none⟩ (.int .i64 ly)).setCell ⟨w.heap.size + 1, 0, none⟩ (.int .i64 hx)).setCell ⟨w.heap.size + 1, 1, none⟩ (.int .i64 hy)) w.heap.size 30 #[.int .i64 lx, .int .i64 ly] := (((p2.set_ 0 _).set_ 1 _).far (by simp) _).far (by simp) _
      have q3 : Bx ((((wr.setCell ⟨w.heap.size, 0, none⟩ (.int .i64 lx)).setCell ⟨w.heap.size, 1, none⟩ (.int .i64 ly)).setCell ⟨w.heap.size + 1, 0, none⟩ (.int .i64 hx)).setCell ⟨w.heap.size + 1, 1, none⟩ (.int .i64 hy)) (w.heap.size + 1) 30 #[.int .i64 hx, .int .i64 hy] := (((p3.far (by simp) _).far (by simp) _).set_ 0 _).set_ 1 _
      obtain ⟨q2a, q2b⟩ := q2.two
      obtain ⟨q3a, q3b⟩ := q3.two
      refine bodyPost_ret (v := .tuple #[.agg #[.int .i64 lx, .int .i64 ly], .agg #[.int .i64 hx, .int .i64 hy]]) (by simp [results, Try.results39, go_sem, q2a, q2b, q3a, q3b]) rfl ?_
      rw [HR.out]
      exact ⟨rfl, ((((hB.setCell (by simp) _).setCell (by simp) _).setCell (by simp) _).setCell (by simp) _).drew⟩
end Go.Proofs.Ytbleipaekdhdmaa
