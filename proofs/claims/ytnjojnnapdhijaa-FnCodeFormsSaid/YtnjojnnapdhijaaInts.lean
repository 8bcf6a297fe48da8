/-
  Contracts of the laws' helpers over a slice of int64: copy, size, equality, marks. Conditions: the lengths are far below the machine's.
-/
import Derived.Test.YtnjojnnapdhijaaMem
import Derived.Test.YtnjojnnapdhijaaRows
import Derived.BigQuiet
import Derived.Deep.RegionHeld3
import Derived.Deep.DeepCutAuto
namespace Go.Proofs.Ytnjojnnapdhijaa
open Go.RowKit
set_option linter.unusedVariables false

theorem info_i64 : (Try.prog.info? 2).map (fun i => (i.zero, i.size, i.bytes)) = some (some (.int .i64 0), 1, 8) := by kernel_rfl

/-- A function that hands back a slice of ints of its own. -/
def RetI (w : World) (xs : List Int) (e : Ending) (w' : World) : Prop :=
  ∃ A c, e = .returned (.slice A xs.length c) ∧ OwnI w' w.heap.size A c xs ∧ Below w.heap.size w w'

theorem run_make_i64 (n : Nat) (hn : n ≤ 35184372088832) (W : World) :
    (Instr.makeSlice 34 (.int .i64 (n : Int)) (.int .i64 (n : Int))).run Try.prog W = .ok (.slice (some ⟨W.heap.size, 0, none⟩) n n) (W.alloc (.cells (madeCells #[.int .i64 0] n) 2)) := by
  obtain ⟨i0, hi, hz0, hz1, hz2⟩ := info_parts info_i64
  have hr := run_make (P := Try.prog) W 34 2 i0 (.int .i64 0) Try.underlying34 hi hz0 .i64 .i64 n n (by omega) (by omega) (by rw [hz2]; omega) (by omega)
  rw [hz1] at hr
  simp only [Int.toNat_natCast, Nat.mul_one] at hr
  exact hr

theorem OwnI.made (w : World) {base : Nat} (n : Nat) {m : Nat} (hn : n = w.heap.size) (hb : base ≤ w.heap.size) (hm : m ≤ 9223372036854775807) :
    OwnI (w.alloc (.cells (madeCells #[.int .i64 0] m) 2)) base (some ⟨n, 0, none⟩) m (List.replicate m 0) := by
  subst hn
  have := OwnI.new w (base := base) (List.replicate m 0) (madeCells #[.int .i64 0] m) (by rw [toList_madeCells_one]; simp) hb (by simp [maxLen]; omega)
  simpa using this

theorem OwnI.cap_ {w : World} {base : Nat} {A : Option Addr} {c : Nat} {xs : List Int} (h : OwnI w base A c xs) : xs.length ≤ c ∧ c ≤ 9223372036854775807 := by simpa [maxLen] using h.cap

theorem take_set_next (xs ys : List Int) (k : Nat) (x : Int) (hx : xs[k]? = some x) (hy : ys.length = xs.length) (ht : ys.take k = xs.take k) :
    (ys.set k x).take (k + 1) = xs.take (k + 1) := by
  apply List.ext_getElem?
  intro j
  have hk : k < xs.length := (List.getElem?_eq_some_iff.1 hx).1
  have h := congrArg (fun l : List Int => l[j]?) ht
  simp only [List.getElem?_take] at h ⊢
  by_cases h1 : j < k + 1
  · rw [if_pos h1, if_pos h1]
    by_cases h2 : j = k
    · subst h2; rw [hx]; simp [hy, hk]
    · rw [if_pos (by omega), if_pos (by omega)] at h
      rw [List.getElem?_set_ne (by omega)]; exact h
  · rw [if_neg h1, if_neg h1]

set_option maxHeartbeats 400000 in
theorem toInt64S_any (A : Option Addr) (c : Nat) (xs : List Int) (w : World) (h : RI w A xs) (hn : xs.length ≤ 1048576) :
    Calls Try.prog 96 #[.slice A xs.length c] w (RetI w xs) := by
  have hmk := fun W : World => run_make_i64 xs.length (by omega) W
  have hnew : OwnI (w.alloc (.cells (madeCells #[.int .i64 0] xs.length) 2)) w.heap.size (some ⟨w.heap.size, 0, none⟩) xs.length (List.replicate xs.length 0) := by
    have := OwnI.new w (base := w.heap.size) (List.replicate xs.length 0) (madeCells #[.int .i64 0] xs.length) (by rw [toList_madeCells_one]; simp) (Nat.le_refl _) (by simp [maxLen]; omega)
    simpa using this
  have hrd := RI.alloc h (.cells (madeCells #[.int .i64 0] xs.length) 2)
  go_enter Try.func96, Try.ntmps96
  go_wp2
  go_loopw [4] (fun i wr => ∃ (k : Nat) (ys : List Int), k ≤ xs.length ∧ i = .int .i64 k ∧ ys.length = xs.length ∧ Hid (ys.take k = xs.take k) ∧
      OwnI wr w.heap.size (some ⟨w.heap.size, 0, none⟩) xs.length ys ∧ RI wr A xs ∧ Below w.heap.size w wr)
    (fun i _ => xs.length - (intOf i).toNat)
  case atStart => exact ⟨0, _, Nat.zero_le _, rfl, by simp, hide (by simp), hnew, hrd, (Below.refl _ _).alloc (Nat.le_refl _) _⟩
  case round =>
    obtain ⟨k, ys, hk, rfl, hyl, hyt, hown, hr, hbel⟩ := hrel
    by_cases hlt : k < xs.length
    · obtain ⟨b, off, x, rfl, hb, hx, hc⟩ := hr.at_ hlt
      have hbw : b < w.heap.size := h.lt (by omega) rfl
      obtain ⟨g, y, hg, hgb, hgs, hy, hgc, hgf, hst⟩ := hown.at_ (k := k) (by omega)
      injection hg with hg; injection hg with hg; subst hg
      have hs := hst x
      have HT : Hid ((ys.set k x).take (k + 1) = xs.take (k + 1)) := take_set_next xs ys k x hx hyl hyt
      have HY : Hid ((ys.set k x).length = xs.length) := by rw [List.length_set]; exact hyl
      have HB := below_own hbel hs.2 (by omega) (Nat.le_refl _)
      clear hst hyt hyl
      go_wp2
      go_roundw
      case rel => exact ⟨k + 1, _, by omega, by go_num, HY.out, HT, hs.1, hr.grown hs.2 (.inr (blk_ne (by omega))), HB⟩
      case measure => simp [intOf]; omega
    · go_wp2
      go_ret
      have hkk : k = xs.length := by omega
      have hyt' := hyt.out
      rw [hkk, List.take_of_length_le (by omega), List.take_of_length_le (Nat.le_refl _)] at hyt'
      subst hyt'
      exact ⟨_, _, rfl, hown, hbel⟩

/-- A function that only reads: its value, and some draws. -/
def RetQ (w : World) (v : Value) (e : Ending) (w' : World) : Prop := e = .returned v ∧ ∃ n, w' = w.drewN n

theorem take_eq_all {xs ys : List Int} {k : Nat} (hl : xs.length = ys.length) (hk : k = xs.length) (h : xs.take k = ys.take k) : xs = ys := by
  rw [hk, List.take_of_length_le (Nat.le_refl _), List.take_of_length_le (by omega)] at h
  exact h
theorem take_eq_next {xs ys : List Int} {k : Nat} {x : Int} (hx : xs[k]? = some x) (hy : ys[k]? = some x) (h : xs.take k = ys.take k) : xs.take (k + 1) = ys.take (k + 1) := by
  rw [List.take_add_one, List.take_add_one, h, hx, hy]
theorem ne_at {xs ys : List Int} {k : Nat} {x y : Int} (hx : xs[k]? = some x) (hy : ys[k]? = some y) (h : x ≠ y) : decide (xs = ys) = false := by
  apply decide_eq_false
  intro e
  rw [e, hy] at hx
  injection hx with hx
  exact h hx.symm
theorem ne_len {xs ys : List Int} (h : xs.length ≠ ys.length) : decide (xs = ys) = false := by
  apply decide_eq_false
  intro e
  exact h (by rw [e])

set_option maxHeartbeats 400000 in
theorem eqInt64S_any (A B : Option Addr) (c d : Nat) (xs ys : List Int) (w : World) (hA : RI w A xs) (hB : RI w B ys) (hn : xs.length ≤ 1048576) (hm : ys.length ≤ 1048576) :
    Calls Try.prog 97 #[.slice A xs.length c, .slice B ys.length d] w (RetQ w (.bool (decide (xs = ys)))) := by
  by_cases hl : xs.length = ys.length
  · have HL := hide hl
    have hnm : ((xs.length : Int) != (ys.length : Int)) = false := by simp [hl]
    clear hl
    go_enter Try.func97, Try.ntmps97
    go_wp2
    go_loopw [5] (fun i wr => ∃ (k : Nat), k ≤ xs.length ∧ i = .int .i64 k ∧ Hid (xs.take k = ys.take k) ∧ ∃ n, wr = w.drewN n)
      (fun i _ => xs.length - (intOf i).toNat)
    case atStart => exact ⟨0, Nat.zero_le _, rfl, hide (by simp), 0, rfl⟩
    case round =>
      obtain ⟨k, hk, rfl, ht, n, rfl⟩ := hrel
      by_cases hlt : k < xs.length
      · obtain ⟨b, off, x, rfl, hb, hx, hc⟩ := hA.at_ hlt
        obtain ⟨b', off', y, rfl, hb', hy, hc'⟩ := hB.at_ (k := k) (by have := HL.out; omega)
        have hlt' : (k : Int) < (ys.length : Int) := by have := HL.out; omega
        by_cases hxy : x = y
        · subst hxy
          have HT := hide (take_eq_next hx hy ht.out)
          have hne : (x != x) = false := by simp
          go_wp2_with fail
          go_quiet (fail)
          go_wp2
          go_roundw
          case rel => exact ⟨k + 1, by omega, by go_num, HT, _, rfl⟩
          case measure => simp [intOf]; omega
        · have HN := hide (ne_at hx hy hxy)
          have hne : (x != y) = true := by simpa using hxy
          go_wp2_with fail
          go_quiet (fail)
          go_wp2
          go_ret
          rw [HN.out]
          exact ⟨rfl, _, by rw [World.drewN_drewN]⟩
      · go_wp2
        go_ret
        have he : xs = ys := take_eq_all HL.out (by omega) ht.out
        rw [decide_eq_true he]
        exact ⟨rfl, _, rfl⟩
  · have HN := hide (ne_len hl)
    have hnm : ((xs.length : Int) != (ys.length : Int)) = true := by rw [bne_iff_ne]; omega
    go_enter Try.func97, Try.ntmps97
    go_wp2
    go_ret
    rw [HN.out]
    exact ⟨rfl, 0, rfl⟩

theorem szInt64S_ok (A : Option Addr) (c n : Nat) (left : Int) (w : World) (h : (n : Int) ≤ left) (hl : left ≤ 1048576) :
    Calls Try.prog 95 #[.slice A n c, .int .i64 left] w fun e w' => e = .returned (.int .i64 (left - n)) ∧ w = w' := by
  go_enter Try.func95, Try.ntmps95
  go_wp2
  go_ret
  exact ⟨rfl, rfl⟩
theorem szInt64S_no (A : Option Addr) (c n : Nat) (left : Int) (w : World) (h0 : 0 ≤ left) (h : left < (n : Int)) (hl : n ≤ 9223372036854775807) :
    Calls Try.prog 95 #[.slice A n c, .int .i64 left] w fun e w' => e = .returned (.int .i64 (-1)) ∧ w = w' := by
  go_enter Try.func95, Try.ntmps95
  go_wp2
  go_ret
  exact ⟨rfl, rfl⟩

/-- k, k + 1, .. -/
def marks (k : Int) (n : Nat) : List Int := (List.range n).map fun i : Nat => k + (i : Int)
theorem marks_length (k : Int) (n : Nat) : (marks k n).length = n := by simp [marks]
theorem marks_at (k : Int) {n j : Nat} (h : j < n) : (marks k n)[j]? = some (k + j) := by simp [marks, h]
theorem marks_set (k : Int) {xs : List Int} {j : Nat} (hj : j < xs.length) (h : xs.take j = marks k j) : (xs.set j (k + j)).take (j + 1) = marks k (j + 1) := by
  have hm : marks k (j + 1) = marks k j ++ [k + j] := by simp [marks, List.range_succ]
  rw [List.take_add_one, List.getElem?_set_self hj, List.take_set_of_le (Nat.le_refl _), h, hm]
  rfl

set_option maxHeartbeats 400000 in
theorem markInt64S_any (A : Option Addr) (c base : Nat) (xs : List Int) (k0 : Int) (w : World) (h : OwnI w base A c xs) (hn : xs.length ≤ 1048576) (h0 : 0 ≤ k0) (h1 : k0 ≤ 4294967296) :
    Calls Try.prog 98 #[.slice A xs.length c, .int .i64 k0] w fun e w' => e = .returned (.int .i64 (k0 + xs.length)) ∧ OwnI w' base A c (marks k0 xs.length) ∧ w.grownBy w' (blk A) := by
  go_enter Try.func98, Try.ntmps98
  go_wp2
  go_loopw [1, 5] (fun kk i wr => ∃ (j : Nat) (ys : List Int), j ≤ xs.length ∧ i = .int .i64 j ∧ kk = .int .i64 (k0 + j) ∧ Hid (ys.length = xs.length) ∧ Hid (ys.take j = marks k0 j) ∧
      OwnI wr base A c ys ∧ w.grownBy wr (blk A))
    (fun _ i _ => xs.length - (intOf i).toNat)
  case atStart => exact ⟨0, xs, Nat.zero_le _, rfl, by simp, hide rfl, hide (by simp [marks]), h, World.grownBy.refl _ _⟩
  case round =>
    obtain ⟨j, ys, hj, rfl, rfl, hyl, hyt, hown, hg⟩ := hrel
    by_cases hlt : j < xs.length
    · obtain ⟨g, y, hA, hgb, hgs, hy, hgc, hgf, hst⟩ := hown.at_ (k := j) (by have := hyl.out; omega)
      subst hA
      have hs := hst (k0 + j)
      have HT : Hid ((ys.set j (k0 + j)).take (j + 1) = marks k0 (j + 1)) := marks_set k0 (by have := hyl.out; omega) hyt.out
      have HY : Hid ((ys.set j (k0 + j)).length = xs.length) := by rw [Hid, List.length_set]; exact hyl.out
      clear hst hyt hyl
      go_wp2
      go_roundw
      case rel => exact ⟨j + 1, _, by omega, by go_num, by go_num, HY, HT, hs.1, grown_trans hg hs.2⟩
      case measure => simp [intOf]; omega
    · go_wp2
      go_ret
      have hjj : j = xs.length := by omega
      have hyt' := hyt.out
      have hyl' := hyl.out
      rw [hjj, List.take_of_length_le (by omega)] at hyt'
      subst hyt'
      exact ⟨ret_int (by omega), hown, hg⟩

set_option maxHeartbeats 400000 in
theorem heldInt64S_any (A : Option Addr) (c n : Nat) (k0 : Int) (w : World) (h : RI w A (marks k0 n)) (hn : n ≤ 1048576) (h0 : 0 ≤ k0) (h1 : k0 ≤ 4294967296) :
    Calls Try.prog 99 #[.slice A n c, .int .i64 k0] w fun e w' => e = .returned (.int .i64 (k0 + n)) ∧ w = w' := by
  go_enter Try.func99, Try.ntmps99
  go_wp2
  go_loop [1, 5] (fun kk i => ∃ (j : Nat), j ≤ n ∧ i = .int .i64 j ∧ kk = .int .i64 (k0 + j))
    (fun _ i => n - (intOf i).toNat)
  case atStart => exact ⟨0, Nat.zero_le _, rfl, by simp⟩
  case round =>
    obtain ⟨j, hj, rfl, rfl⟩ := hrel
    by_cases hlt : j < n
    · obtain ⟨b, off, x, hA, hb, hx, hc⟩ := h.at_ (k := j) (by rw [marks_length]; omega)
      subst hA
      rw [marks_at k0 hlt] at hx
      injection hx with hx
      subst hx
      have hne : (k0 + (j : Int) != k0 + (j : Int)) = false := by simp
      go_wp2
      go_round
      case rel => exact ⟨j + 1, by omega, by go_num, by go_num⟩
      case measure => simp [intOf]; omega
    · go_wp2
      go_ret
      exact ⟨ret_int (by omega), rfl⟩
end Go.Proofs.Ytnjojnnapdhijaa
