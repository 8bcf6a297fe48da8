/-
  Contract: isOdd. Conditions: none beyond the lengths.
-/
import Derived.Test.YtenbjfkmfcbdiaaPlaces
import Derived.Test.YtenbjfkmfcbdiaaFaultMath
import Derived.Deep.DeepCutAuto
import Derived.Deep.RegionHeld3
namespace Go.Proofs.Ytenbjfkmfcbdiaa
open Go.RowKit
set_option linter.unusedVariables false

theorem plc_bound {code : List (List Int)} (hn : code.length + sumLen code ≤ 1048576) (x : Int) : 0 ≤ (plc code x).1 ∧ (plc code x).1 ≤ 1048576 ∧ 0 ≤ (plc code x).2 ∧ (plc code x).2 ≤ 1048576 := by
  unfold plc
  cases h : placeOf code x with
  | none => simp
  | some p =>
    obtain ⟨a, b⟩ := p
    obtain ⟨an, bn, xs, rfl, rfl, h3, h4⟩ := placeOf_some h
    have h5 := (List.getElem?_eq_some_iff.1 h3).1
    have h6 := (List.getElem?_eq_some_iff.1 h4).1
    have h7 := sumLen_row h3
    simp only [Option.getD_some]
    omega
theorem atK_plc {l : List (Int × Int × Int)} {code : List (List Int)} (hl : ∀ x, l.lookup x = placeOf code x) (x : Int) : atK plE l x = plc code x := by
  unfold atK plc
  rw [hl]
  rfl
/-- what a look-up gives, in the worlds that a statement with two new blocks passes through -/
theorem Mp.look_pl {w : World} {b : Nat} {l : List (Int × Int × Int)} (h : Mp plE w b l) {x p1 p2 : Int} (hp : atK plE l x = (p1, p2)) :
    ((Instr.lookup 90 (.map (some b)) (.int .i64 x) false).run Try.prog w = .ok (.agg #[.int .i64 p1, .int .i64 p2]) w) ∧
    (∀ o, (Instr.lookup 90 (.map (some b)) (.int .i64 x) false).run Try.prog (w.alloc o) = .ok (.agg #[.int .i64 p1, .int .i64 p2]) (w.alloc o)) ∧
    (∀ o o', (Instr.lookup 90 (.map (some b)) (.int .i64 x) false).run Try.prog ((w.alloc o).alloc o') = .ok (.agg #[.int .i64 p1, .int .i64 p2]) ((w.alloc o).alloc o')) ∧
    ((Instr.lookup 90 (.map (some b)) (.int .i64 x) false).run Try.prog w.drew = .ok (.agg #[.int .i64 p1, .int .i64 p2]) w.drew) ∧
    (∀ o, (Instr.lookup 90 (.map (some b)) (.int .i64 x) false).run Try.prog (w.alloc o).drew = .ok (.agg #[.int .i64 p1, .int .i64 p2]) (w.alloc o).drew) ∧
    (∀ o o', (Instr.lookup 90 (.map (some b)) (.int .i64 x) false).run Try.prog ((w.alloc o).alloc o').drew = .ok (.agg #[.int .i64 p1, .int .i64 p2]) ((w.alloc o).alloc o').drew) := by
  have key : ∀ {w : World}, Mp plE w b l → (Instr.lookup 90 (.map (some b)) (.int .i64 x) false).run Try.prog w = .ok (.agg #[.int .i64 p1, .int .i64 p2]) w := fun h => by
    have := h.look x
    rw [hp] at this
    exact this
  exact ⟨key h, fun o => key (h.alloc o), fun o o' => key ((h.alloc o).alloc o'), key h.drew, fun o => key (h.alloc o).drew, fun o o' => key ((h.alloc o).alloc o').drew⟩

end Go.Proofs.Ytenbjfkmfcbdiaa
