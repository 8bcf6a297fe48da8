/-
  Contracts: the source that begins with bytes, and the laws' helpers over bytes. Conditions: the numbers of bytes are far below the machine's.
-/
import Derived.Test.YtnjojnnapdhijaaDraw
namespace Go.Proofs.Ytnjojnnapdhijaa
open Go.RowKit
set_option linter.unusedVariables false

theorem l00From_any (A : Option Addr) (n c : Nat) (w : World) : Calls Try.prog 51 #[.slice A n c] w fun e w' => e = .returned (.pointer (some ⟨w.heap.size, 0, none⟩)) ∧ w' = w.alloc (.cells #[.slice A n c, .int .i64 0, .int .u64 0] 101) := by
  go_enter Try.func51, Try.ntmps51
  go_wp2_with fail
  go_ret
  exact ⟨rfl, rfl⟩
theorem RB.alloc {w : World} {A : Option Addr} {xs : List Int} (h : RB w A xs) (o : Obj) : RB (w.alloc o) A xs := Rd.alloc h o
/-- the source, just made -/
theorem Sr.new (w : World) {A : Option Addr} {c : Nat} {xs : List Int} (h : RB w A xs) : Sr (w.alloc (.cells #[.slice A xs.length c, .int .i64 0, .int .u64 0] 101)) w.heap.size A c xs 0 :=
  ⟨0, 0, Nat.le_refl _, by omega, by omega, Bx.new w _ _, h.alloc _, fun hn e => by have := rb_lt h hn e; omega⟩
theorem Sr.drewN {w : World} {b : Nat} {A : Option Addr} {c : Nat} {xs : List Int} {K : Nat} (h : Sr w b A c xs K) (n : Nat) : Sr (w.drewN n) b A c xs K := h
/-- what the source alone changed lies beyond -/
theorem below_gr {w0 w w' : World} {b : Nat} (h : Below w0.heap.size w0 w) (hg : w.grownBy w' (some b)) (hb : w0.heap.size ≤ b) : Below w0.heap.size w0 w' :=
  ⟨hg.os.trans h.os, hg.tape.trans h.tape, hg.output.trans h.output, Nat.le_trans h.size hg.size, fun i hi => (hg.block i (Nat.lt_of_lt_of_le hi h.size) (fun e => by injection e with e; omega)).trans (h.block i hi)⟩
end Go.Proofs.Ytnjojnnapdhijaa
