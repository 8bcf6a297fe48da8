/-
  Contracts of the laws' helpers over polynomials, and of the two tests for equality. Conditions: the lengths are far below the machine's.
-/
import Derived.Test.YthbhppbcbpllcaaPolyOk
namespace Go.Proofs.Ythbhppbcbpllcaa
open Go.RowKit
set_option linter.unusedVariables false

set_option maxHeartbeats 400000 in
theorem l00Same_any (A B : Option Addr) (c d : Nat) (xs ys : List Int) (w : World) (hA : RI w A xs) (hB : RI w B ys) (hn : xs.length ≤ 1048576) (hm : ys.length ≤ 1048576) :
    Calls Try.prog 69 #[.slice A xs.length c, .slice B ys.length d] w (RetQ w (.bool (decide (xs = ys)))) := by
  by_cases hl : xs.length = ys.length
  · have HL := hide hl
    have hnm : ((xs.length : Int) != (ys.length : Int)) = false := by simp [hl]
    clear hl
    go_enter Try.func69, Try.ntmps69
    go_wp2
    go_loopw [5] (fun i wr => ∃ (k : Nat), k ≤ xs.length ∧ i = .int .i64 k ∧ Hid (xs.take k = ys.take k) ∧ ∃ n, wr = w.drewN n)
      (fun i _ => xs.length - (intOf i).toNat)
    case atStart => exact ⟨0, Nat.zero_le _, rfl, hide (by simp), 0, rfl⟩
    case round =>
      obtain ⟨k, hk, rfl, ht, n, rfl⟩ := hrel
      by_cases hlt : k < xs.length
      · obtain ⟨b, off, x, rfl, hb, hx, hc⟩ := hA.at_ hlt
        obtain ⟨b', off', y, rfl, hb', hy, hc'⟩ := hB.at_ (k := k) (by have := HL.out; omega)
        have hlt' : (k : Int) < (ys.length : Int) := by have := HL.out; omega
        by_cases hxy : x = y
        · subst hxy
          have HT := hide (take_eq_next hx hy ht.out)
          have hne : (x != x) = false := by simp
          go_wp2_with fail
          go_quiet (fail)
          go_wp2
          go_roundw
          case rel => exact ⟨k + 1, by omega, by go_num, HT, _, rfl⟩
          case measure => simp [intOf]; omega
        · have HN := hide (ne_at hx hy hxy)
          have hne : (x != y) = true := by simpa using hxy
          go_wp2_with fail
          go_quiet (fail)
          go_wp2
          go_ret
          rw [HN.out]
          exact ⟨rfl, _, by rw [World.drewN_drewN]⟩
      · go_wp2
        go_ret
        have he : xs = ys := take_eq_all HL.out (by omega) ht.out
        rw [decide_eq_true he]
        exact ⟨rfl, _, rfl⟩
  · have HN := hide (ne_len hl)
    have hnm : ((xs.length : Int) != (ys.length : Int)) = true := by rw [bne_iff_ne]; omega
    go_enter Try.func69, Try.ntmps69
    go_wp2
    go_ret
    rw [HN.out]
    exact ⟨rfl, 0, rfl⟩
set_option maxHeartbeats 400000 in
theorem slicesEqual_any (A B : Option Addr) (c d : Nat) (xs ys : List Int) (w : World) (hA : RI w A xs) (hB : RI w B ys) (hn : xs.length ≤ 1048576) (hm : ys.length ≤ 1048576) :
    Calls Try.prog 44 #[.slice A xs.length c, .slice B ys.length d] w (RetQ w (.bool (decide (xs = ys)))) := by
  by_cases hl : xs.length = ys.length
  · have HL := hide hl
    have hnm : ((xs.length : Int) != (ys.length : Int)) = false := by simp [hl]
    clear hl
    go_enter Try.func44, Try.ntmps44
    go_wp2
    go_loopw [13] (fun i wr => ∃ (k : Nat), k ≤ xs.length ∧ i = .int .i64 k ∧ Hid (xs.take k = ys.take k) ∧ ∃ n, wr = w.drewN n)
      (fun i _ => xs.length - (intOf i).toNat)
    case atStart => exact ⟨0, Nat.zero_le _, rfl, hide (by simp), 0, rfl⟩
    case round =>
      obtain ⟨k, hk, rfl, ht, n, rfl⟩ := hrel
      by_cases hlt : k < xs.length
      · obtain ⟨b, off, x, rfl, hb, hx, hc⟩ := hA.at_ hlt
        obtain ⟨b', off', y, rfl, hb', hy, hc'⟩ := hB.at_ (k := k) (by have := HL.out; omega)
        have hlt' : (k : Int) < (ys.length : Int) := by have := HL.out; omega
        by_cases hxy : x = y
        · subst hxy
          have HT := hide (take_eq_next hx hy ht.out)
          have hne : (x != x) = false := by simp
          go_wp2_with fail
          go_quiet (fail)
          go_wp2
          go_roundw
          case rel => exact ⟨k + 1, by omega, by go_num, HT, _, rfl⟩
          case measure => simp [intOf]; omega
        · have HN := hide (ne_at hx hy hxy)
          have hne : (x != y) = true := by simpa using hxy
          go_wp2_with fail
          go_quiet (fail)
          go_wp2
          go_ret
          rw [HN.out]
          exact ⟨rfl, _, by rw [World.drewN_drewN]⟩
      · go_wp2
        go_ret
        have he : xs = ys := take_eq_all HL.out (by omega) ht.out
        rw [decide_eq_true he]
        exact ⟨rfl, _, rfl⟩
  · have HN := hide (ne_len hl)
    have hnm : ((xs.length : Int) != (ys.length : Int)) = true := by rw [bne_iff_ne]; omega
    go_enter Try.func44, Try.ntmps44
    go_wp2
    go_ret
    rw [HN.out]
    exact ⟨rfl, 0, rfl⟩

/-- A function that hands back a polynomial whose coefficients lie in memory of its own. -/
def RetP (w : World) (low : Int) (xs : List Int) (e : Ending) (w' : World) : Prop :=
  ∃ A c, e = .returned (.agg #[.int .i64 low, .slice A xs.length c]) ∧ OwnI w' w.heap.size A c xs ∧ Below w.heap.size w w'

theorem szPoly_ok (low : Int) (A : Option Addr) (c n : Nat) (left : Int) (w : World) (h : (n : Int) ≤ left) (hl : left ≤ 1048576) :
    Calls Try.prog 16 #[.agg #[.int .i64 low, .slice A n c], .int .i64 left] w (RetV w (.int .i64 (left - n))) := by
  go_enter Try.func16, Try.ntmps16
  go_wp2_with (go_at_call 41; refine (szInt64S_ok _ _ _ _ _ h hl).mono ?_; rintro e w' ⟨rfl, rfl⟩)
  go_ret
  exact ⟨rfl, (Below.refl _ _).alloc (Nat.le_refl _) _⟩
theorem szPoly_no (low : Int) (A : Option Addr) (c n : Nat) (left : Int) (w : World) (h0 : 0 ≤ left) (h : left < (n : Int)) (hl : n ≤ 9223372036854775807) :
    Calls Try.prog 16 #[.agg #[.int .i64 low, .slice A n c], .int .i64 left] w (RetV w (.int .i64 (-1))) := by
  go_enter Try.func16, Try.ntmps16
  go_wp2_with (go_at_call 41; refine (szInt64S_no _ _ _ _ _ h0 h hl).mono ?_; rintro e w' ⟨rfl, rfl⟩)
  go_ret
  exact ⟨rfl, (Below.refl _ _).alloc (Nat.le_refl _) _⟩

set_option maxHeartbeats 400000 in
theorem toPoly_any (low : Int) (A : Option Addr) (c : Nat) (xs : List Int) (w : World) (h : RI w A xs) (hn : xs.length ≤ 1048576) :
    Calls Try.prog 18 #[.agg #[.int .i64 low, .slice A xs.length c]] w (RetP w low xs) := by
  go_enter Try.func18, Try.ntmps18
  go_wp2_with (go_at_call 43; refine (toInt64S_any _ _ xs _ (((h.alloc _).alloc _).alloc _) hn).mono ?_; rintro e w' ⟨A', c', rfl, hown, hb⟩; obtain ⟨hc, hf⟩ := bcell hb; have hz := hb.size; simp only [World.size_alloc] at hz)
  refine bodyPost_ret (v := .agg #[.int .i64 low, .slice A' xs.length c']) (by simp [results, Try.results18, go_sem, hc]) rfl ⟨A', c', rfl, ?_, ?_⟩
  · exact (((hown.setLow (by simp) _).setLow (by simp) _).setLow (by simp) _).mono (by simp; omega)
  · exact (((((((Below.refl _ _).alloc (Nat.le_refl _) _).alloc (by simp) _).alloc (by simp; omega) _).trans (hb.mono (by simp; omega))).setCell (by simp; omega) _).setCell (by simp) _).setCell (by simp) _

set_option maxHeartbeats 400000 in
theorem eqPoly_any (l1 l2 : Int) (A B : Option Addr) (c d : Nat) (xs ys : List Int) (w : World) (hA : RI w A xs) (hB : RI w B ys) (hn : xs.length ≤ 1048576) (hm : ys.length ≤ 1048576) :
    Calls Try.prog 20 #[.agg #[.int .i64 l1, .slice A xs.length c], .agg #[.int .i64 l2, .slice B ys.length d]] w (RetV w (.bool (decide (l1 = l2 ∧ xs = ys)))) := by
  by_cases hl : l1 = l2
  · subst hl
    have hne : (l1 != l1) = false := by simp
    have HB := hide (show decide (l1 = l1 ∧ xs = ys) = decide (xs = ys) by simp)
    cases hd : decide (xs = ys)
    all_goals
      go_enter Try.func20, Try.ntmps20
      go_wp2_with (go_at_call 45; refine (eqInt64S_any _ _ _ _ xs ys _ ((hA.alloc _).alloc _) ((hB.alloc _).alloc _) hn hm).mono ?_; rintro e w' ⟨rfl, n, rfl⟩)
      go_ret
      rw [HB.out, hd]
      exact ⟨rfl, (((Below.refl _ _).alloc (Nat.le_refl _) _).alloc (by simp) _).trans (below_drewN (Below.refl _ _) _)⟩
  · have hne : (l1 != l2) = true := by simpa using hl
    have HB := hide (show decide (l1 = l2 ∧ xs = ys) = false by simp [hl])
    go_enter Try.func20, Try.ntmps20
    go_wp2_with fail
    go_ret
    rw [HB.out]
    exact ⟨rfl, ((Below.refl _ _).alloc (Nat.le_refl _) _).alloc (by simp) _⟩

theorem markPoly_any (low : Int) (A : Option Addr) (c base : Nat) (xs : List Int) (k0 : Int) (w : World) (h : OwnI w base A c xs) (hn : xs.length ≤ 1048576) (h0 : 0 ≤ k0) (h1 : k0 ≤ 4294967296) :
    Calls Try.prog 27 #[.agg #[.int .i64 low, .slice A xs.length c], .int .i64 k0] w fun e w' => e = .returned (.int .i64 (k0 + xs.length)) ∧ OwnI w' base A c (marks k0 xs.length) ∧ w.grownBy w' (blk A) := by
  go_enter Try.func27, Try.ntmps27
  go_wp2_with (go_at_call 55; refine (markInt64S_any _ _ base xs _ _ (h.alloc _) hn h0 h1).mono ?_; rintro e w' ⟨rfl, hown, hg⟩)
  go_ret
  exact ⟨rfl, hown, grown_trans (World.grownBy_alloc _ _ _) hg⟩
theorem heldPoly_any (low : Int) (A : Option Addr) (c n : Nat) (k0 : Int) (w : World) (h : RI w A (marks k0 n)) (hn : n ≤ 1048576) (h0 : 0 ≤ k0) (h1 : k0 ≤ 4294967296) :
    Calls Try.prog 28 #[.agg #[.int .i64 low, .slice A n c], .int .i64 k0] w (RetV w (.int .i64 (k0 + n))) := by
  have hk : ¬ (k0 + (n : Int) < 0) := by omega
  go_enter Try.func28, Try.ntmps28
  go_wp2_with (go_at_call 56; refine (heldInt64S_any _ _ n _ _ (h.alloc _) hn h0 h1).mono ?_; rintro e w' ⟨rfl, rfl⟩)
  go_ret
  exact ⟨rfl, (Below.refl _ _).alloc (Nat.le_refl _) _⟩

set_option maxHeartbeats 400000 in
theorem specSamePoly_any (l1 l2 : Int) (A B : Option Addr) (c d : Nat) (xs ys : List Int) (w : World) (hA : RI w A xs) (hB : RI w B ys) (hn : xs.length ≤ 1048576) (hm : ys.length ≤ 1048576) :
    Calls Try.prog 17 #[.agg #[.int .i64 l1, .slice A xs.length c], .agg #[.int .i64 l2, .slice B ys.length d]] w (RetV w (.bool (decide (l1 = l2 ∧ xs = ys)))) := by
  by_cases hl : l1 = l2
  · subst hl
    have hne : (l1 == l1) = true := by simp
    have HB := hide (show decide (l1 = l1 ∧ xs = ys) = decide (xs = ys) by simp)
    have hA' := (hA.alloc (.cells #[.int .i64 l1, .slice A xs.length c] 29)).alloc (.cells #[.int .i64 l1, .slice B ys.length d] 29)
    have hB' := (hB.alloc (.cells #[.int .i64 l1, .slice A xs.length c] 29)).alloc (.cells #[.int .i64 l1, .slice B ys.length d] 29)
    go_enter Try.func17, Try.ntmps17
    go_wp2_with (first | (go_at_call 42; go_in))
    go_quiet ((go_at_call 69; exact Calls.quiet_of (l00Same_any _ _ _ _ xs ys _ (hA'.drewN _) (hB'.drewN _) hn hm)))
    go_wp2
    go_ret
    rw [HB.out]
    exact ⟨rfl, (((Below.refl _ _).alloc (Nat.le_refl _) _).alloc (by simp) _).trans (below_drewN (Below.refl _ _) _)⟩
  · have hne : (l1 == l2) = false := by simpa using hl
    have HB := hide (show decide (l1 = l2 ∧ xs = ys) = false by simp [hl])
    go_enter Try.func17, Try.ntmps17
    go_wp2_with (first | (go_at_call 42; go_in))
    go_quiet (fail)
    go_wp2
    go_ret
    rw [HB.out]
    exact ⟨rfl, (((Below.refl _ _).alloc (Nat.le_refl _) _).alloc (by simp) _).trans (below_drewN (Below.refl _ _) _)⟩

set_option maxHeartbeats 400000 in
theorem implSamePoly_any (l1 l2 : Int) (A B : Option Addr) (c d : Nat) (xs ys : List Int) (w : World) (hA : RI w A xs) (hB : RI w B ys) (hn : xs.length ≤ 1048576) (hm : ys.length ≤ 1048576) :
    Calls Try.prog 19 #[.agg #[.int .i64 l1, .slice A xs.length c], .agg #[.int .i64 l2, .slice B ys.length d]] w (RetV w (.bool (decide (l1 = l2 ∧ xs = ys)))) := by
  by_cases hl : l1 = l2
  · subst hl
    have hne : (l1 == l1) = true := by simp
    have HB := hide (show decide (l1 = l1 ∧ xs = ys) = decide (xs = ys) by simp)
    go_enter Try.func19, Try.ntmps19
    go_wp2_with (go_at_call 44; refine (slicesEqual_any _ _ _ _ xs ys _ ((hA.alloc _).alloc _) ((hB.alloc _).alloc _) hn hm).mono ?_; rintro e w' ⟨rfl, n, rfl⟩)
    go_ret
    rw [HB.out]
    exact ⟨rfl, (((Below.refl _ _).alloc (Nat.le_refl _) _).alloc (by simp) _).trans (below_drewN (Below.refl _ _) _)⟩
  · have hne : (l1 == l2) = false := by simpa using hl
    have HB := hide (show decide (l1 = l2 ∧ xs = ys) = false by simp [hl])
    go_enter Try.func19, Try.ntmps19
    go_wp2_with fail
    go_ret
    rw [HB.out]
    exact ⟨rfl, ((Below.refl _ _).alloc (Nat.le_refl _) _).alloc (by simp) _⟩
end Go.Proofs.Ythbhppbcbpllcaa
