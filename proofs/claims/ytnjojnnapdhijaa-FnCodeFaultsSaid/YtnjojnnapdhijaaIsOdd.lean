/-
  Contract: isOdd. Conditions: none beyond the lengths.
-/
import Derived.Test.YtnjojnnapdhijaaNamesM
import Derived.Test.YtnjojnnapdhijaaFaultMathM
import Derived.Deep.DeepCutAuto
import Derived.Deep.RegionHeld3
namespace Go.Proofs.Ytnjojnnapdhijaa
open Go.RowKit
set_option linter.unusedVariables false

theorem plc_bound {code : List (List Int)} (hn : code.length + sumLen code ≤ 1048576) (x : Int) : 0 ≤ (plc code x).1 ∧ (plc code x).1 ≤ 1048576 ∧ 0 ≤ (plc code x).2 ∧ (plc code x).2 ≤ 1048576 := by
  unfold plc
  cases h : placeOf code x with
  | none => simp
  | some p =>
    obtain ⟨a, b⟩ := p
    obtain ⟨an, bn, xs, rfl, rfl, h3, h4⟩ := placeOf_some h
    have h5 := (List.getElem?_eq_some_iff.1 h3).1
    have h6 := (List.getElem?_eq_some_iff.1 h4).1
    have h7 := sumLen_row h3
    simp only [Option.getD_some]
    omega
theorem atK_plc {l : List (Int × Int × Int)} {code : List (List Int)} (hl : ∀ x, l.lookup x = placeOf code x) (x : Int) : atK plE l x = plc code x := by
  unfold atK plc
  rw [hl]
  rfl
/-- what a look-up gives, in the worlds that a statement with two new blocks passes through -/
theorem Mp.look_pl {w : World} {b : Nat} {l : List (Int × Int × Int)} (h : Mp plE w b l) {x p1 p2 : Int} (hp : atK plE l x = (p1, p2)) :
    ((Instr.lookup 59 (.map (some b)) (.int .i64 x) false).run Try.prog w = .ok (.agg #[.int .i64 p1, .int .i64 p2]) w) ∧
    (∀ o, (Instr.lookup 59 (.map (some b)) (.int .i64 x) false).run Try.prog (w.alloc o) = .ok (.agg #[.int .i64 p1, .int .i64 p2]) (w.alloc o)) ∧
    (∀ o o', (Instr.lookup 59 (.map (some b)) (.int .i64 x) false).run Try.prog ((w.alloc o).alloc o') = .ok (.agg #[.int .i64 p1, .int .i64 p2]) ((w.alloc o).alloc o')) ∧
    ((Instr.lookup 59 (.map (some b)) (.int .i64 x) false).run Try.prog w.drew = .ok (.agg #[.int .i64 p1, .int .i64 p2]) w.drew) ∧
    (∀ o, (Instr.lookup 59 (.map (some b)) (.int .i64 x) false).run Try.prog (w.alloc o).drew = .ok (.agg #[.int .i64 p1, .int .i64 p2]) (w.alloc o).drew) ∧
    (∀ o o', (Instr.lookup 59 (.map (some b)) (.int .i64 x) false).run Try.prog ((w.alloc o).alloc o').drew = .ok (.agg #[.int .i64 p1, .int .i64 p2]) ((w.alloc o).alloc o').drew) := by
  have key : ∀ {w : World}, Mp plE w b l → (Instr.lookup 59 (.map (some b)) (.int .i64 x) false).run Try.prog w = .ok (.agg #[.int .i64 p1, .int .i64 p2]) w := fun h => by
    have := h.look x
    rw [hp] at this
    exact this
  exact ⟨key h, fun o => key (h.alloc o), fun o o' => key ((h.alloc o).alloc o'), key h.drew, fun o => key (h.alloc o).drew, fun o o' => key ((h.alloc o).alloc o').drew⟩

set_option maxRecDepth 100000 in
set_option maxHeartbeats 4000000 in
theorem isOdd_any (b : Nat) (l : List (Int × Int × Int)) (code : List (List Int)) (x : Int) (w : World) (hm : Mp plE w b l) (hl : ∀ x, l.lookup x = placeOf code x) (hn : code.length + sumLen code ≤ 1048576) (h1 : -9223372036854775808 < x) (h2 : x ≤ 9223372036854775807) :
    Calls Try.prog 58 #[.map (some b), .int .i64 x] w (RetV w (.bool (oddX code x))) := by
  obtain ⟨p1, p2, hp⟩ : ∃ p1 p2, plc code x = (p1, p2) := ⟨_, _, rfl⟩
  obtain ⟨q1, q2, hq⟩ : ∃ q1 q2, plc code (-x) = (q1, q2) := ⟨_, _, rfl⟩
  have hbp := plc_bound hn x
  have hbq := plc_bound hn (-x)
  rw [hp] at hbp
  rw [hq] at hbq
  obtain ⟨bp1, bp2, bp3, bp4⟩ := hbp
  obtain ⟨bq1, bq2, bq3, bq4⟩ := hbq
  dsimp only at bp1 bp2 bp3 bp4 bq1 bq2 bq3 bq4
  obtain ⟨k0, k1, k2, k3, k4, k5⟩ := hm.look_pl (x := x) ((atK_plc hl x).trans hp)
  obtain ⟨m0, m1, m2, m3, m4, m5⟩ := hm.look_pl (x := -x) ((atK_plc hl (-x)).trans hq)
  have HV : Hid (oddX code x = oddB (p1, p2) (q1, q2)) := hide (by unfold oddX; rw [hp, hq])
  have wn : IntKind.i64.wrap (-x) = -x := by rw [IntKind.wrap_i64]; omega
  clear hp hq
  go_enter Try.func58, Try.ntmps58
  go_upto_region 1 with fail
  go_cut [5, 6] (fun s5 s6 wx => ∃ (G5 G6 : Nat), s5 = .pointer (some ⟨G5, 0, none⟩) ∧ s6 = .pointer (some ⟨G6, 0, none⟩) ∧ Bx wx G5 63 #[.int .i64 p1, .int .i64 p2] ∧ Bx wx G6 63 #[.int .i64 q1, .int .i64 q2] ∧ Below w.heap.size w wx)
  case first =>
    go_region
    all_goals go_wp2_with fail
    all_goals go_meet
    all_goals first
      | exact ⟨w.heap.size, w.heap.size + 1, rfl, rfl, ((Bx.new_ _ _ _ _ (by simp)).alloc _).drew, (Bx.new_ _ _ _ _ (by simp)).drew, (((Below.refl _ _).alloc (by simp) _).alloc (by simp) _).drew⟩
      | exact ⟨w.heap.size + 1, w.heap.size, rfl, rfl, (Bx.new_ _ _ _ _ (by simp)).drew, ((Bx.new_ _ _ _ _ (by simp)).alloc _).drew, (((Below.refl _ _).alloc (by simp) _).alloc (by simp) _).drew⟩
  case rest =>
    clear k0 k1 k2 k3 k4 k5 m0 m1 m2 m3 m4 m5
    obtain ⟨G5, G6, rfl, rfl, b5, b6, hB⟩ := hcut
    obtain ⟨c5a, c5b⟩ := b5.two
    obtain ⟨c6a, c6b⟩ := b6.two
    by_cases h3 : p1 = q1
    · subst h3
      by_cases h4 : p2 < q2
      · have h5 : IntKind.i64.wrap (q2 - p2) = q2 - p2 := by rw [IntKind.wrap_i64]; omega
        have h6 : Int.tmod (q2 - p2 - 1) 2 = (q2 - p2 - 1) % 2 := Int.tmod_eq_emod_of_nonneg (by omega)
        go_wp2_with fail
        go_ret
        refine ⟨?_, hB⟩
        rw [HV.out]
        unfold oddB
        simp [h4]
      · have h5 : decide (p2 < q2) = false := decide_eq_false h4
        go_wp2_with fail
        go_ret
        refine ⟨?_, hB⟩
        rw [HV.out]
        unfold oddB
        rw [h5]
        simp
    · have h5 : (p1 == q1) = false := by simpa using h3
      go_wp2_with fail
      go_ret
      refine ⟨?_, hB⟩
      rw [HV.out]
      unfold oddB
      simp [h3]
end Go.Proofs.Ytnjojnnapdhijaa
