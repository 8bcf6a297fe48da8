/-
  Contracts of the laws' helpers over polynomials, and of the two tests for equality. Conditions: the lengths are far below the machine's.
-/
import Derived.Test.YtjlifbdaieblpaaGreatPolyOk
namespace Go.Proofs.YtjlifbdaieblpaaGreat
open Go.RowKit
set_option linter.unusedVariables false

set_option maxHeartbeats 400000 in
theorem l00Same_any (A B : Option Addr) (c d : Nat) (xs ys : List Int) (w : World) (hA : RI w A xs) (hB : RI w B ys) (hn : xs.length ≤ 1048576) (hm : ys.length ≤ 1048576) :
    Calls Tryz.prog 58 #[.slice A xs.length c, .slice B ys.length d] w (RetQ w (.bool (decide (xs = ys)))) := by
  by_cases hl : xs.length = ys.length
  · have HL := hide hl
    have hnm : ((xs.length : Int) != (ys.length : Int)) = false := by simp [hl]
    clear hl
    go_enter Tryz.func58, Tryz.ntmps58
    go_wp2
    go_loopw [5] (fun i wr => ∃ (k : Nat), k ≤ xs.length ∧ i = .int .i64 k ∧ Hid (xs.take k = ys.take k) ∧ ∃ n, wr = w.drewN n)
      (fun i _ => xs.length - (intOf i).toNat)
    case atStart => exact ⟨0, Nat.zero_le _, rfl, hide (by simp), 0, rfl⟩
    case round =>
      obtain ⟨k, hk, rfl, ht, n, rfl⟩ := hrel
      by_cases hlt : k < xs.length
      · obtain ⟨b, off, x, rfl, hb, hx, hc⟩ := hA.at_ hlt
        obtain ⟨b', off', y, rfl, hb', hy, hc'⟩ := hB.at_ (k := k) (by have := HL.out; omega)
        have hlt' : (k : Int) < (ys.length : Int) := by have := HL.out; omega
        by_cases hxy : x = y
        · subst hxy
          have HT := hide (take_eq_next hx hy ht.out)
          have hne : (x != x) = false := by simp
          go_wp2_with fail
          go_quiet (fail)
          go_wp2
          go_roundw
          case rel => exact ⟨k + 1, by omega, by go_num, HT, _, rfl⟩
          case measure => simp [intOf]; omega
        · have HN := hide (ne_at hx hy hxy)
          have hne : (x != y) = true := by simpa using hxy
          go_wp2_with fail
          go_quiet (fail)
          go_wp2
          go_ret
          rw [HN.out]
          exact ⟨rfl, _, by rw [World.drewN_drewN]⟩
      · go_wp2
        go_ret
        have he : xs = ys := take_eq_all HL.out (by omega) ht.out
        rw [decide_eq_true he]
        exact ⟨rfl, _, rfl⟩
  · have HN := hide (ne_len hl)
    have hnm : ((xs.length : Int) != (ys.length : Int)) = true := by rw [bne_iff_ne]; omega
    go_enter Tryz.func58, Tryz.ntmps58
    go_wp2
    go_ret
    rw [HN.out]
    exact ⟨rfl, 0, rfl⟩
/-- A function that hands back a polynomial whose coefficients lie in memory of its own. -/
def RetP (w : World) (low : Int) (xs : List Int) (e : Ending) (w' : World) : Prop :=
  ∃ A c, e = .returned (.agg #[.int .i64 low, .slice A xs.length c]) ∧ OwnI w' w.heap.size A c xs ∧ Below w.heap.size w w'

set_option maxHeartbeats 400000 in
theorem specSamePoly_any (l1 l2 : Int) (A B : Option Addr) (c d : Nat) (xs ys : List Int) (w : World) (hA : RI w A xs) (hB : RI w B ys) (hn : xs.length ≤ 1048576) (hm : ys.length ≤ 1048576) :
    Calls Tryz.prog 11 #[.agg #[.int .i64 l1, .slice A xs.length c], .agg #[.int .i64 l2, .slice B ys.length d]] w (RetV w (.bool (decide (l1 = l2 ∧ xs = ys)))) := by
  by_cases hl : l1 = l2
  · subst hl
    have hne : (l1 == l1) = true := by simp
    have HB := hide (show decide (l1 = l1 ∧ xs = ys) = decide (xs = ys) by simp)
    have hA' := (hA.alloc (.cells #[.int .i64 l1, .slice A xs.length c] 29)).alloc (.cells #[.int .i64 l1, .slice B ys.length d] 29)
    have hB' := (hB.alloc (.cells #[.int .i64 l1, .slice A xs.length c] 29)).alloc (.cells #[.int .i64 l1, .slice B ys.length d] 29)
    go_enter Tryz.func11, Tryz.ntmps11
    go_wp2_with (first | (go_at_call 36; go_in))
    go_quiet ((go_at_call 58; exact Calls.quiet_of (l00Same_any _ _ _ _ xs ys _ (hA'.drewN _) (hB'.drewN _) hn hm)))
    go_wp2
    go_ret
    rw [HB.out]
    exact ⟨rfl, (((Below.refl _ _).alloc (Nat.le_refl _) _).alloc (by simp) _).trans (below_drewN (Below.refl _ _) _)⟩
  · have hne : (l1 == l2) = false := by simpa using hl
    have HB := hide (show decide (l1 = l2 ∧ xs = ys) = false by simp [hl])
    go_enter Tryz.func11, Tryz.ntmps11
    go_wp2_with (first | (go_at_call 36; go_in))
    go_quiet (fail)
    go_wp2
    go_ret
    rw [HB.out]
    exact ⟨rfl, (((Below.refl _ _).alloc (Nat.le_refl _) _).alloc (by simp) _).trans (below_drewN (Below.refl _ _) _)⟩

end Go.Proofs.YtjlifbdaieblpaaGreat
