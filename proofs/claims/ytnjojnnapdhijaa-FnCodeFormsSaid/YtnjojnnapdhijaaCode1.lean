/-
  Contracts of the laws' helpers over slices of slices of ints: copy, size, equality, marks. Conditions: the lengths are far below the machine's.
-/
import Derived.Test.YtnjojnnapdhijaaCodeMem
import Derived.Test.YtnjojnnapdhijaaPolyOk
namespace Go.Proofs.Ytnjojnnapdhijaa
open Go.RowKit
set_option linter.unusedVariables false

theorem below_drewN'' {B : Nat} {a b : World} (h : Below B a b) (n : Nat) : Below B a (b.drewN n) := ⟨h.os, h.tape, h.output, h.size, h.block⟩
def sumLen (code : List (List Int)) : Nat := (code.map List.length).sum
theorem sumLen_nil : sumLen [] = 0 := rfl
theorem sumLen_next {code : List (List Int)} {k : Nat} {xs : List Int} (h : code[k]? = some xs) : sumLen (code.take (k + 1)) = sumLen (code.take k) + xs.length := by
  unfold sumLen
  rw [List.take_add_one, h, List.map_append, List.sum_append]
  simp
theorem sumLen_take_le : ∀ (code : List (List Int)) (k : Nat), sumLen (code.take k) ≤ sumLen code
  | [], k => by simp [sumLen]
  | x :: t, 0 => by simp [sumLen]
  | x :: t, k + 1 => by
    have := sumLen_take_le t k
    unfold sumLen at this ⊢
    simp at this ⊢
    omega
theorem sumLen_row {code : List (List Int)} {k : Nat} {xs : List Int} (h : code[k]? = some xs) : xs.length ≤ sumLen code := by
  have h1 := sumLen_next h
  have h2 := sumLen_take_le code (k + 1)
  omega

theorem take_set_nextL {α : Type} {xs ys : List α} {k : Nat} {x : α} (hx : xs[k]? = some x) (hy : ys.length = xs.length) (ht : ys.take k = xs.take k) :
    (ys.set k x).take (k + 1) = xs.take (k + 1) := by
  have hk : k < xs.length := (List.getElem?_eq_some_iff.1 hx).1
  rw [List.take_add_one, List.take_add_one, List.getElem?_set_self (by omega), List.take_set_of_le (Nat.le_refl _), ht, hx]
/-- What is known of a slice of slices that came in. -/
def ArgC (w : World) (A : Option Addr) (c : Nat) (code : List (List Int)) : Prop := code.length ≤ c ∧ c ≤ 9223372036854775807 ∧ RC w w.heap.size A code ∧ ∀ xs ∈ code, ∀ x ∈ xs, I64 x

set_option maxHeartbeats 1000000 in
theorem szInt64SS_ok (A : Option Addr) (c : Nat) (code : List (List Int)) (T : Nat) (left : Int) (w : World) (hc : RC w T A code) (hle : ((code.length + sumLen code : Nat) : Int) ≤ left) (hl : left ≤ 1048576) :
    Calls Try.prog 46 #[.slice A code.length c, .int .i64 left] w (RetV w (.int .i64 (left - ((code.length + sumLen code : Nat) : Int)))) := by
  have HL := hide hle
  have hcl : code.length ≤ 1048576 := by omega
  have hge : ¬ left - (code.length : Int) < 0 := by omega
  have hS := hide (sumLen_take_le code)
  have hsl : (sumLen code : Int) ≤ 1048576 := by omega
  go_enter Try.func46, Try.ntmps46
  go_wp2
  go_loop [1, 5] (fun l i => ∃ k : Nat, k ≤ code.length ∧ i = .int .i64 k ∧ l = .int .i64 (left - (code.length : Int) - (sumLen (code.take k) : Int))) (fun _ i => code.length - (intOf i).toNat)
  case atStart => exact ⟨0, Nat.zero_le _, rfl, by simp [sumLen_nil]⟩
  case round =>
    obtain ⟨k, hk, rfl, rfl⟩ := hrel
    by_cases hlt : k < code.length
    · obtain ⟨b, off, B, d, xs, rfl, hb, hx, hce, hd1, hd2, hr⟩ := hc.row hlt
      have h1 := sumLen_next hx
      have h2 := hS.out (k + 1)
      have h3 : (xs.length : Int) ≤ left - (code.length : Int) - (sumLen (code.take k) : Int) := by have := HL.out; omega
      have h4 : left - (code.length : Int) - (sumLen (code.take k) : Int) - (xs.length : Int) = left - (code.length : Int) - (sumLen (code.take (k + 1)) : Int) := by omega
      have H4 := hide h4
      have h5 : ¬ left - (code.length : Int) - (sumLen (code.take k) : Int) - (xs.length : Int) < 0 := by omega
      clear h1 h2 h4 hx
      go_wp2_with (go_at_call 95; refine (szInt64S_ok _ _ _ _ _ h3 (by omega)).mono ?_; rintro e w' ⟨rfl, rfl⟩)
      go_round
      case rel => exact ⟨k + 1, by omega, by go_num, by rw [H4.out]⟩
      case measure => simp [intOf]; omega
    · go_wp2_with fail
      go_ret
      exact ⟨ret_int (by rw [List.take_of_length_le (by omega)]; omega), Below.refl _ _⟩
set_option maxHeartbeats 1000000 in
theorem szInt64SS_no (A : Option Addr) (c : Nat) (code : List (List Int)) (T : Nat) (left : Int) (w : World) (hc : RC w T A code) (hn : code.length ≤ 9223372036854775807) (h0 : 0 ≤ left) (hno : left < ((code.length + sumLen code : Nat) : Int)) (hl : left ≤ 1048576) :
    Calls Try.prog 46 #[.slice A code.length c, .int .i64 left] w (RetV w (.int .i64 (-1))) := by
  have HL := hide hno
  by_cases hge : left - (code.length : Int) < 0
  · go_enter Try.func46, Try.ntmps46
    go_wp2
    go_ret
    exact ⟨rfl, Below.refl _ _⟩
  · clear hno
    go_enter Try.func46, Try.ntmps46
    go_wp2
    go_loop [1, 5] (fun l i => ∃ k : Nat, k ≤ code.length ∧ i = .int .i64 k ∧ l = .int .i64 (left - (code.length : Int) - (sumLen (code.take k) : Int)) ∧ 0 ≤ left - (code.length : Int) - (sumLen (code.take k) : Int)) (fun _ i => code.length - (intOf i).toNat)
    case atStart => exact ⟨0, Nat.zero_le _, rfl, by simp [sumLen_nil], by simp [sumLen_nil]; omega⟩
    case round =>
      obtain ⟨k, hk, rfl, rfl, hpos⟩ := hrel
      by_cases hlt : k < code.length
      · obtain ⟨b, off, B, d, xs, rfl, hb, hx, hce, hd1, hd2, hr⟩ := hc.row hlt
        have h1 := sumLen_next hx
        by_cases h3 : (xs.length : Int) ≤ left - (code.length : Int) - (sumLen (code.take k) : Int)
        · have h4 : left - (code.length : Int) - (sumLen (code.take k) : Int) - (xs.length : Int) = left - (code.length : Int) - (sumLen (code.take (k + 1)) : Int) := by omega
          have H4 := hide h4
          have h5 : ¬ left - (code.length : Int) - (sumLen (code.take k) : Int) - (xs.length : Int) < 0 := by omega
          have h6 : 0 ≤ left - (code.length : Int) - (sumLen (code.take (k + 1)) : Int) := by omega
          have H6 := hide h6
          clear h1 h4 hx h6
          go_wp2_with (go_at_call 95; refine (szInt64S_ok _ _ _ _ _ h3 (by omega)).mono ?_; rintro e w' ⟨rfl, rfl⟩)
          go_round
          case rel => exact ⟨k + 1, by omega, by go_num, by rw [H4.out], H6.out⟩
          case measure => simp [intOf]; omega
        · have h4 : left - (code.length : Int) - (sumLen (code.take k) : Int) < (xs.length : Int) := by omega
          clear h1 h3 hx
          go_wp2_with (go_at_call 95; refine (szInt64S_no _ _ _ _ _ hpos h4 (by omega)).mono ?_; rintro e w' ⟨rfl, rfl⟩)
          go_ret
          exact ⟨rfl, Below.refl _ _⟩
      · have := HL.out
        have h7 : k = code.length := by omega
        subst h7
        rw [List.take_of_length_le (Nat.le_refl _)] at hpos
        omega

theorem run_make_hd (n : Nat) (hn : n ≤ 1048576) (W : World) :
    (Instr.makeSlice 24 (.int .i64 (n : Int)) (.int .i64 (n : Int))).run Try.prog W = .ok (.slice (some ⟨W.heap.size, 0, none⟩) n n) (W.alloc (.cells (madeCells hdE.z.cells (n * hdE.size)) 34)) :=
  hdE.run_make n (by simp [hdE]; omega) (by omega) W

set_option maxHeartbeats 1000000 in
theorem toInt64SS_any (A : Option Addr) (c : Nat) (code : List (List Int)) (T : Nat) (w : World) (hc : RC w T A code) (hn : code.length + sumLen code ≤ 1048576) :
    Calls Try.prog 47 #[.slice A code.length c] w (RetC w code) := by
  have hmk := fun W : World => run_make_hd code.length (by omega) W
  have hnew : OwnC (w.alloc (.cells (madeCells hdE.z.cells (code.length * hdE.size)) 34)) w.heap.size (w.heap.size + 1) (some ⟨w.heap.size, 0, none⟩) code.length (List.replicate code.length []) := OwnC.made w _ rfl (Nat.le_refl _) (by omega)
  go_enter Try.func47, Try.ntmps47
  go_wp2
  go_loopw [4] (fun i wr => ∃ (k : Nat) (cj : List (List Int)), k ≤ code.length ∧ i = .int .i64 k ∧ Hid (cj.length = code.length) ∧ Hid (cj.take k = code.take k) ∧ OwnC wr w.heap.size wr.heap.size (some ⟨w.heap.size, 0, none⟩) code.length cj ∧ Below w.heap.size w wr) (fun i _ => code.length - (intOf i).toNat)
  case atStart => exact ⟨0, _, Nat.zero_le _, rfl, hide (by simp), hide (by simp), hnew.mono (Nat.le_refl _) (by simp), (Below.refl _ _).alloc (Nat.le_refl _) _⟩
  case round =>
    clear hnew hmk
    obtain ⟨k, cj, hk, rfl, hcl, hct, own, hB⟩ := hrel
    have hr := hc.below hB
    have hz := hB.size
    by_cases hlt : k < code.length
    · obtain ⟨b, off, B, d, xs, rfl, hb, hx, hce, hd1, hd2, hrow⟩ := hr.row hlt
      have hxl := sumLen_row hx
      have HT := hide (take_set_nextL hx hcl.out hct.out)
      have HY : Hid ((cj.set k xs).length = code.length) := hide (by rw [List.length_set]; exact hcl.out)
      have hkc : k < cj.length := by rw [hcl.out]; exact hlt
      clear hx hct hcl
      go_wp2_with fail
      refine (toInt64S_any _ _ xs _ hrow (by omega)).mono ?_
      rintro e w2 ⟨E, f, rfl, orow, hb2⟩
      have own2 := own.below hb2
      have hB2 := hB.trans (hb2.mono hz)
      obtain ⟨g, B1, d1, ys, hg, hgb, hgt, hgs, hy, hgc, hgf, _⟩ := own2.row hkc
      injection hg with hg; injection hg with hg; subst hg
      have hput := own2.put (k := k) hkc orow hz
      have hs2 := hb2.size
      clear hy own own2 orow hkc
      go_wp2_with fail
      go_roundw
      case rel => exact ⟨k + 1, _, by omega, by go_num, HY, HT, by simpa using hput.1, hB2.setCell (Nat.le_refl _) _⟩
      case measure => simp [intOf]; omega
    · have hct' := hct.out
      have hcl' := hcl.out
      rw [List.take_of_length_le (by omega), List.take_of_length_le (by omega)] at hct'
      have HC := hide hct'
      clear hct' hcl' hct hcl
      go_wp2_with fail
      go_ret
      have := HC.out
      subst this
      exact ⟨_, _, rfl, own, hB⟩

theorem ne_lenL {α : Type} [DecidableEq α] {xs ys : List α} (h : xs.length ≠ ys.length) : decide (xs = ys) = false := by
  apply decide_eq_false
  intro e
  exact h (by rw [e])
theorem ne_atL {α : Type} [DecidableEq α] {xs ys : List α} {k : Nat} {x y : α} (hx : xs[k]? = some x) (hy : ys[k]? = some y) (h : x ≠ y) : decide (xs = ys) = false := by
  apply decide_eq_false
  intro e
  rw [e, hy] at hx
  injection hx with hx
  exact h hx.symm
theorem take_eq_nextL {α : Type} {xs ys : List α} {k : Nat} {x : α} (hx : xs[k]? = some x) (hy : ys[k]? = some x) (h : xs.take k = ys.take k) : xs.take (k + 1) = ys.take (k + 1) := by
  rw [List.take_add_one, List.take_add_one, h, hx, hy]

set_option maxHeartbeats 1000000 in
theorem eqInt64SS_any (A B : Option Addr) (c d : Nat) (xs ys : List (List Int)) (T1 T2 : Nat) (w : World) (hA : RC w T1 A xs) (hB : RC w T2 B ys) (hn : xs.length + sumLen xs ≤ 1048576) (hm : ys.length + sumLen ys ≤ 1048576) :
    Calls Try.prog 48 #[.slice A xs.length c, .slice B ys.length d] w (RetV w (.bool (decide (xs = ys)))) := by
  by_cases hl : xs.length = ys.length
  · have HL := hide hl
    have hnm : ((xs.length : Int) != (ys.length : Int)) = false := by simp [hl]
    clear hl
    go_enter Try.func48, Try.ntmps48
    go_wp2
    go_loopw [5] (fun i wr => ∃ (k : Nat), k ≤ xs.length ∧ i = .int .i64 k ∧ Hid (xs.take k = ys.take k) ∧ Below w.heap.size w wr)
      (fun i _ => xs.length - (intOf i).toNat)
    case atStart => exact ⟨0, Nat.zero_le _, rfl, hide (by simp), Below.refl _ _⟩
    case round =>
      obtain ⟨k, hk, rfl, ht, hbw⟩ := hrel
      have hA1 := hA.below hbw
      have hB1 := hB.below hbw
      by_cases hlt : k < xs.length
      · obtain ⟨b, off, E, f, x, rfl, hb, hx, hc, _, _, hrx⟩ := hA1.row hlt
        obtain ⟨b', off', E', f', y, rfl, hb', hy, hc', _, _, hry⟩ := hB1.row (k := k) (by have := HL.out; omega)
        have hlt' : (k : Int) < (ys.length : Int) := by have := HL.out; omega
        have hxl := sumLen_row hx
        have hyl := sumLen_row hy
        have HX := hide hx
        have HY := hide hy
        clear hx hy
        by_cases hxy : x = y
        · subst hxy
          have hdd : decide (x = x) = true := by simp
          have HT := hide (take_eq_nextL HX.out HY.out ht.out)
          go_wp2_with fail
          go_quiet ((go_at_call 97; exact Calls.quiet_of (eqInt64S_any _ _ _ _ x x _ (hrx.drewN _) (hry.drewN _) (by omega) (by omega))))
          go_wp2_with fail
          go_roundw
          case rel => exact ⟨k + 1, by omega, by go_num, HT, (hbw.trans (below_drewN'' (Below.refl _ _) _))⟩
          case measure => simp [intOf]; omega
        · have hdd : decide (x = y) = false := by simpa using hxy
          have HN := hide (ne_atL HX.out HY.out hxy)
          clear hxy
          go_wp2_with fail
          go_quiet ((go_at_call 97; exact Calls.quiet_of (eqInt64S_any _ _ _ _ x y _ (hrx.drewN _) (hry.drewN _) (by omega) (by omega))))
          go_wp2_with fail
          go_ret
          rw [HN.out]
          exact ⟨rfl, (hbw.trans (below_drewN'' (Below.refl _ _) _))⟩
      · have he : xs = ys := by
          have h1 := ht.out
          have h2 := HL.out
          rw [List.take_of_length_le (by omega), List.take_of_length_le (by omega)] at h1
          exact h1
        have HE := hide he
        clear he
        go_wp2_with fail
        go_ret
        rw [decide_eq_true HE.out]
        exact ⟨rfl, hbw⟩
  · have HN := hide (ne_lenL hl)
    have hnm : ((xs.length : Int) != (ys.length : Int)) = true := by rw [bne_iff_ne]; omega
    go_enter Try.func48, Try.ntmps48
    go_wp2
    go_ret
    rw [HN.out]
    exact ⟨rfl, Below.refl _ _⟩

/-- the code with its first j rows marked -/
def markTo (k : Int) (code : List (List Int)) (j : Nat) : List (List Int) := code.mapIdx fun i xs => if i < j then marks (k + sumLen (code.take i)) xs.length else xs
def marksC (k : Int) (code : List (List Int)) : List (List Int) := markTo k code code.length
theorem markTo_length (k : Int) (code : List (List Int)) (j : Nat) : (markTo k code j).length = code.length := by simp [markTo]
theorem markTo_zero (k : Int) (code : List (List Int)) : markTo k code 0 = code := by
  apply List.ext_getElem?
  intro i
  simp only [markTo, List.getElem?_mapIdx]
  cases code[i]? with
  | none => rfl
  | some p => simp
theorem markTo_at {k : Int} {code : List (List Int)} {j : Nat} {xs : List Int} (h : code[j]? = some xs) : (markTo k code j)[j]? = some xs := by
  simp only [markTo, List.getElem?_mapIdx, h, Option.map_some]
  rw [if_neg (by omega)]
theorem markTo_set {k : Int} {code : List (List Int)} {j : Nat} {xs : List Int} (h : code[j]? = some xs) : (markTo k code j).set j (marks (k + sumLen (code.take j)) xs.length) = markTo k code (j + 1) := by
  have hj := (List.getElem?_eq_some_iff.1 h).1
  apply List.ext_getElem?
  intro i
  by_cases hij : j = i
  · subst hij
    rw [List.getElem?_set_self (by rw [markTo_length]; exact hj)]
    simp only [markTo, List.getElem?_mapIdx, h, Option.map_some]
    rw [if_pos (by omega)]
  · rw [List.getElem?_set_ne hij]
    simp only [markTo, List.getElem?_mapIdx]
    congr 1
    funext ys
    by_cases h1 : i < j
    · rw [if_pos h1, if_pos (by omega)]
    · rw [if_neg h1, if_neg (by omega)]
theorem marksC_at {k : Int} {code : List (List Int)} {j : Nat} {xs : List Int} (h : code[j]? = some xs) : (marksC k code)[j]? = some (marks (k + sumLen (code.take j)) xs.length) := by
  have hj := (List.getElem?_eq_some_iff.1 h).1
  simp only [marksC, markTo, List.getElem?_mapIdx, h, Option.map_some]
  rw [if_pos hj]

set_option maxHeartbeats 1000000 in
theorem markInt64SS_any (A : Option Addr) (c base top : Nat) (code : List (List Int)) (k0 : Int) (w : World) (h : OwnC w base top A c code) (hn : code.length + sumLen code ≤ 1048576) (h0 : 0 ≤ k0) (h1 : k0 ≤ 1048577) :
    Calls Try.prog 49 #[.slice A code.length c, .int .i64 k0] w fun e w' => e = .returned (.int .i64 (k0 + (sumLen code : Int))) ∧ OwnC w' base top A c (marksC k0 code) ∧ Marked w w' base top := by
  have hS := hide (sumLen_take_le code)
  go_enter Try.func49, Try.ntmps49
  go_wp2
  go_loopw [1, 5] (fun kk i wr => ∃ (j : Nat), j ≤ code.length ∧ i = .int .i64 j ∧ kk = .int .i64 (k0 + (sumLen (code.take j) : Int)) ∧ OwnC wr base top A c (markTo k0 code j) ∧ Marked w wr base top)
    (fun _ i _ => code.length - (intOf i).toNat)
  case atStart => exact ⟨0, Nat.zero_le _, rfl, by simp [sumLen_nil], by rw [markTo_zero]; exact h, Marked.refl _ _ _⟩
  case round =>
    obtain ⟨j, hj, rfl, rfl, own, hM⟩ := hrel
    by_cases hlt : j < code.length
    · obtain ⟨g, B, d, xs, hA, hgb, hgt, hgs, hx, hgc, hgf, orow, hbt, hst⟩ := own.row (k := j) (by rw [markTo_length]; exact hlt)
      subst hA
      have hcx : code[j]? = some xs := by
        have hq : code[j]? = some code[j] := List.getElem?_eq_getElem hlt
        rw [markTo_at hq] at hx
        rw [hq]
        exact hx
      have h2 := sumLen_next hcx
      have h3 := hS.out (j + 1)
      have HT := hide (markTo_set (k := k0) hcx)
      have H2 : Hid (k0 + (sumLen (code.take j) : Int) + (xs.length : Int) = k0 + (sumLen (code.take (j + 1)) : Int)) := hide (by omega)
      have hxs : xs.length ≤ 1048576 := by omega
      have hkb : k0 + (sumLen (code.take j) : Int) ≤ 4294967296 := by omega
      have hka : 0 ≤ k0 + (sumLen (code.take j) : Int) := by omega
      clear hx hcx h2 h3
      go_wp2_with fail
      refine (markInt64S_any B d base xs _ _ orow hxs hka hkb).mono ?_
      rintro e w2 ⟨rfl, orow2, hg2⟩
      have own2 := hst w2 _ (by rw [marks_length]) orow2 hg2
      rw [HT.out] at own2
      have hM2 := hM.trans (Marked.of_grown hg2 (fun b hb => ⟨(orow.ge hb).1, hbt b hb⟩))
      clear hst orow2
      go_wp2_with fail
      go_roundw
      case rel => exact ⟨j + 1, by omega, by go_num, by rw [H2.out], own2, hM2⟩
      case measure => simp [intOf]; omega
    · go_wp2_with fail
      go_ret
      obtain rfl : j = code.length := by omega
      exact ⟨ret_int (by rw [List.take_of_length_le (Nat.le_refl _)]), own, hM⟩

set_option maxHeartbeats 1000000 in
theorem heldInt64SS_any (A : Option Addr) (c T : Nat) (code : List (List Int)) (k0 : Int) (w : World) (hr : RC w T A (marksC k0 code)) (hn : code.length + sumLen code ≤ 1048576) (h0 : 0 ≤ k0) (h1 : k0 ≤ 1048577) :
    Calls Try.prog 50 #[.slice A code.length c, .int .i64 k0] w (RetV w (.int .i64 (k0 + (sumLen code : Int)))) := by
  have hS := hide (sumLen_take_le code)
  have hml : (marksC k0 code).length = code.length := markTo_length _ _ _
  have HML := hide hml
  clear hml
  go_enter Try.func50, Try.ntmps50
  go_wp2
  go_loop [1, 5] (fun kk i => ∃ (j : Nat), j ≤ code.length ∧ i = .int .i64 j ∧ kk = .int .i64 (k0 + (sumLen (code.take j) : Int)))
    (fun _ i => code.length - (intOf i).toNat)
  case atStart => exact ⟨0, Nat.zero_le _, rfl, by simp [sumLen_nil]⟩
  case round =>
    obtain ⟨j, hj, rfl, rfl⟩ := hrel
    by_cases hlt : j < code.length
    · obtain ⟨b, off, B, d, ys, rfl, hb, hy, hce, hd1, hd2, hrow⟩ := hr.row (k := j) (by rw [HML.out]; exact hlt)
      have hq : code[j]? = some code[j] := List.getElem?_eq_getElem hlt
      obtain ⟨xs, hxs⟩ : ∃ xs, code[j] = xs := ⟨_, rfl⟩
      rw [hxs] at hq
      rw [marksC_at hq] at hy
      injection hy with hy
      subst hy
      rw [marks_length] at hce
      have h2 := sumLen_next hq
      have h3 := hS.out (j + 1)
      have H2 : Hid (k0 + (sumLen (code.take j) : Int) + (xs.length : Int) = k0 + (sumLen (code.take (j + 1)) : Int)) := hide (by omega)
      have hxl : xs.length ≤ 1048576 := by omega
      have hkb : k0 + (sumLen (code.take j) : Int) ≤ 4294967296 := by omega
      have hka : 0 ≤ k0 + (sumLen (code.take j) : Int) := by omega
      have hkc : ¬ k0 + (sumLen (code.take j) : Int) + (xs.length : Int) < 0 := by omega
      clear h2 h3 hq hxs hd1
      go_wp2_with (go_at_call 99; refine (heldInt64S_any B d xs.length _ _ hrow hxl hka hkb).mono ?_; rintro e w' ⟨rfl, rfl⟩)
      go_round
      case rel => exact ⟨j + 1, by omega, by go_num, by rw [H2.out]⟩
      case measure => simp [intOf]; omega
    · go_wp2_with fail
      go_ret
      obtain rfl : j = code.length := by omega
      exact ⟨ret_int (by rw [List.take_of_length_le (Nat.le_refl _)]), Below.refl _ _⟩
end Go.Proofs.Ytnjojnnapdhijaa
