/-
  Contract: CodeFault, of the program. Conditions: none beyond the lengths.
-/
import Derived.Test.YtenbjfkmfcbdiaaIsOdd
import Derived.Test.YtenbjfkmfcbdiaaCodeOk
import Derived.Laws.StructEq
namespace Go.Proofs.Ytenbjfkmfcbdiaa
open Go.RowKit
set_option linter.unusedVariables false

theorem pl_neq (W : World) (a b c d : Int) : (binOp .neq 103 (.agg #[.int .i64 a, .int .i64 b]) (.agg #[.int .i64 c, .int .i64 d])).run Try.prog W = .ok (.bool (!(a == c && b == d))) W := by
  have u3 := Try.underlying3
  have hS : Try.prog.underlying 103 = some (.struct (Try.prog.fieldsOf 103)) := by kernel_rfl
  have hp : Try.prog.stoodInHeld 103 = false := by kernel_rfl
  rw [run_neq_struct, show (10000 : Nat) = 9999 + 1 from rfl, run_equalIn_agg W 9999 103 _ _ hS hp]
  simp only [Program.fieldsOf, Try.underlying103]
  go_simp
  by_cases h1 : a = c <;> by_cases h2 : b = d <;> simp [h1, h2]
theorem pl_eql (W : World) (a b c d : Int) : (binOp .eql 103 (.agg #[.int .i64 a, .int .i64 b]) (.agg #[.int .i64 c, .int .i64 d])).run Try.prog W = .ok (.bool (a == c && b == d)) W := by
  have u3 := Try.underlying3
  have hS : Try.prog.underlying 103 = some (.struct (Try.prog.fieldsOf 103)) := by kernel_rfl
  have hp : Try.prog.stoodInHeld 103 = false := by kernel_rfl
  rw [run_eql_struct, show (10000 : Nat) = 9999 + 1 from rfl, run_equalIn_agg W 9999 103 _ _ hS hp]
  simp only [Program.fieldsOf, Try.underlying103]
  go_simp
  by_cases h1 : a = c <;> by_cases h2 : b = d <;> simp [h1, h2]
theorem pl_guard (W : World) (op : BinOp) (x y : Operand) (xs ys : Array Value) : (eqGuard op 103 x y (.agg xs) (.agg ys)).run Try.prog W = .ok () W := run_eqGuard_agg W op _ x y xs ys (by kernel_rfl)

def fV (p : Int × Int × Int) : Value := .tuple #[.int .i64 p.1, .int .i64 p.2.1, .int .i64 p.2.2]
theorem fV_mk {p : Int × Int × Int} {a b c : Int} (h : p = (a, b, c)) : fV p = .tuple #[.int .i64 a, .int .i64 b, .int .i64 c] := by rw [h]; rfl
theorem inB_abs {x M : Int} (h : inB x (-M) M = true) : -M ≤ x ∧ x ≤ M := inB_true.1 h
theorem half_bound {code : List (List Int)} (h : sumLen code ≤ 240) : 0 ≤ halfC code ∧ halfC code ≤ 120 := by unfold halfC; omega

end Go.Proofs.Ytenbjfkmfcbdiaa
