/-
  Contracts: the source that begins with bytes, and the laws' helpers over bytes. Conditions: the numbers of bytes are far below the machine's.
-/
import Derived.Test.YtmjeafklafjakaaDraw
namespace Go.Proofs.Ytmjeafklafjakaa
open Go.RowKit
set_option linter.unusedVariables false

theorem l00From_any (A : Option Addr) (n c : Nat) (w : World) : Calls Try.prog 25 #[.slice A n c] w fun e w' => e = .returned (.pointer (some ⟨w.heap.size, 0, none⟩)) ∧ w' = w.alloc (.cells #[.slice A n c, .int .i64 0, .int .u64 0] 77) := by
  go_enter Try.func25, Try.ntmps25
  go_wp2_with fail
  go_ret
  exact ⟨rfl, rfl⟩
theorem a2Long_any (A B : Option Addr) (n m c d : Nat) (w : World) : Calls Try.prog 5 #[.slice A n c, .slice B m d] w fun e w' => e = .returned (.bool (decide (3000 < n) || decide (3000 < m))) ∧ w = w' := by
  by_cases h1 : 3000 < n
  · have hd : (3000 : Int) < (n : Int) := by omega
    have HV := hide (show (decide (3000 < n) || decide (3000 < m)) = true by rw [decide_eq_true h1]; rfl)
    clear h1
    go_enter Try.func5, Try.ntmps5
    go_wp2_with fail
    go_ret
    rw [HV.out]
    exact ⟨rfl, rfl⟩
  · have hd : ¬ ((3000 : Int) < (n : Int)) := by omega
    by_cases h2 : 3000 < m
    · have hd2 : (3000 : Int) < (m : Int) := by omega
      have HV := hide (show (decide (3000 < n) || decide (3000 < m)) = true by rw [decide_eq_true h2]; simp)
      clear h1 h2
      go_enter Try.func5, Try.ntmps5
      go_wp2_with fail
      go_ret
      rw [HV.out]
      exact ⟨rfl, rfl⟩
    · have hd2 : ¬ ((3000 : Int) < (m : Int)) := by omega
      have HV := hide (show (decide (3000 < n) || decide (3000 < m)) = false by rw [decide_eq_false h1, decide_eq_false h2]; rfl)
      clear h1 h2
      go_enter Try.func5, Try.ntmps5
      go_wp2_with fail
      go_ret
      rw [HV.out]
      exact ⟨rfl, rfl⟩
theorem a2At_any (A : Option Addr) (c : Nat) (xs : List Int) (k : Nat) (K n : Int) (w : World) (h : RB w A xs) (hx : ∀ x ∈ xs, 0 ≤ x ∧ x ≤ 255) (hK : K = (k : Int)) (hk : k ≤ 1000) (h1 : 1 ≤ n) (h2 : n ≤ 1000) :
    Calls Try.prog 19 #[.slice A xs.length c, .int .i64 K, .int .i64 n] w fun e w' => ∃ x : Int, e = .returned (.int .i64 x) ∧ 0 ≤ x ∧ x < n ∧ w = w' := by
  subst hK
  have d4 : n ≠ 0 := by omega
  have d5 : ¬ (n < 1) := by omega
  by_cases hlt : k < xs.length
  · obtain ⟨g, off, x, rfl, hg, hxk, hgc⟩ := h.at_ hlt
    have hxb := hx x (List.mem_of_getElem? hxk)
    have d1 : ¬ ((xs.length : Int) ≤ (k : Int)) := by omega
    have d2 : (k : Int) < (xs.length : Int) := by omega
    go_enter Try.func19, Try.ntmps19
    go_wp2_with fail
    go_ret
    exact ⟨_, rfl, Int.emod_nonneg _ d4, Int.emod_lt_of_pos _ (by omega), rfl⟩
  · have d1 : (xs.length : Int) ≤ (k : Int) := by omega
    go_enter Try.func19, Try.ntmps19
    go_wp2_with fail
    go_ret
    exact ⟨_, rfl, by omega, by omega, rfl⟩
theorem RB.alloc {w : World} {A : Option Addr} {xs : List Int} (h : RB w A xs) (o : Obj) : RB (w.alloc o) A xs := Rd.alloc h o
/-- the source, just made -/
theorem Sr.new (w : World) {A : Option Addr} {c : Nat} {xs : List Int} (h : RB w A xs) : Sr (w.alloc (.cells #[.slice A xs.length c, .int .i64 0, .int .u64 0] 77)) w.heap.size A c xs 0 :=
  ⟨0, 0, Nat.le_refl _, by omega, by omega, Bx.new w _ _, h.alloc _, fun hn e => by have := rb_lt h hn e; omega⟩
theorem Sr.drewN {w : World} {b : Nat} {A : Option Addr} {c : Nat} {xs : List Int} {K : Nat} (h : Sr w b A c xs K) (n : Nat) : Sr (w.drewN n) b A c xs K := h
/-- what the source alone changed lies beyond -/
theorem below_gr {w0 w w' : World} {b : Nat} (h : Below w0.heap.size w0 w) (hg : w.grownBy w' (some b)) (hb : w0.heap.size ≤ b) : Below w0.heap.size w0 w' :=
  ⟨hg.os.trans h.os, hg.tape.trans h.tape, hg.output.trans h.output, Nat.le_trans h.size hg.size, fun i hi => (hg.block i (Nat.lt_of_lt_of_le hi h.size) (fun e => by injection e with e; omega)).trans (h.block i hi)⟩
end Go.Proofs.Ytmjeafklafjakaa
