/-
  Contracts: marks in rows of points, a copy of a slice of points. Conditions: the lengths are far below the machine's.
-/
import Derived.Test.YtbleipaekdhdmaaGen
import Derived.Test.YtbleipaekdhdmaaPts
namespace Go.Proofs.Ytbleipaekdhdmaa
open Go.RowKit
set_option linter.unusedVariables false

/-- k, k + 1, .. by pairs -/
def marksP (k : Int) (n : Nat) : List (Int × Int) := (List.range n).map fun i : Nat => (k + 2 * (i : Int), k + 2 * (i : Int) + 1)
theorem marksP_length (k : Int) (n : Nat) : (marksP k n).length = n := by simp [marksP]
theorem marksP_at (k : Int) {n j : Nat} (h : j < n) : (marksP k n)[j]? = some (k + 2 * (j : Int), k + 2 * (j : Int) + 1) := by simp [marksP, h]
theorem marksP_set (k : Int) {xs : List (Int × Int)} {j : Nat} (hj : j < xs.length) (h : xs.take j = marksP k j) : (xs.set j (k + 2 * (j : Int), k + 2 * (j : Int) + 1)).take (j + 1) = marksP k (j + 1) := by
  have hm : marksP k (j + 1) = marksP k j ++ [(k + 2 * (j : Int), k + 2 * (j : Int) + 1)] := by simp [marksP, List.range_succ]
  rw [List.take_add_one, List.getElem?_set_self hj, List.take_set_of_le (Nat.le_refl _), h, hm]
  rfl

theorem RP.grownOld {w0 w w' : World} {A B : Option Addr} {xs ys : List (Int × Int)} {base d : Nat} (h : RP w A xs) (hold : RP w0 A xs) (ho : OwnP w base B d ys) (hs : w0.heap.size ≤ base) (hg : w.grownBy w' (blk B)) : RP w' A xs :=
  Rd.grownOld h hold (fun g hgb => (ho.ge hgb).1) hs hg
theorem below_markP {w w0 w' : World} {B base : Nat} {A : Option Addr} {c : Nat} {xs : List (Int × Int)} (h : Below B w0 w) (ho : OwnP w base A c xs) (hg : w.grownBy w' (blk A)) (h1 : B ≤ base) (h2 : B ≤ w.heap.size) : Below B w0 w' :=
  h.grown hg h2 (fun k hk => Nat.le_trans h1 (ho.ge hk).1)

set_option maxHeartbeats 1000000 in
theorem markPointS_any (A : Option Addr) (c base : Nat) (xs : List (Int × Int)) (k0 : Int) (w : World) (h : OwnP w base A c xs) (hn : xs.length ≤ 1048576) (h0 : 0 ≤ k0) (h1 : k0 ≤ 4294967296) :
    Calls Try.prog 20 #[.slice A xs.length c, .int .i64 k0] w fun e w' => e = .returned (.int .i64 (k0 + 2 * (xs.length : Int))) ∧ OwnP w' base A c (marksP k0 xs.length) ∧ w.grownBy w' (blk A) := by
  go_enter Try.func20, Try.ntmps20
  go_wp2
  go_loopw [1, 5] (fun kk i wr => ∃ (j : Nat) (ys : List (Int × Int)), j ≤ xs.length ∧ i = .int .i64 j ∧ kk = .int .i64 (k0 + 2 * (j : Int)) ∧ Hid (ys.length = xs.length) ∧ Hid (ys.take j = marksP k0 j) ∧
      OwnP wr base A c ys ∧ w.grownBy wr (blk A))
    (fun _ i _ => xs.length - (intOf i).toNat)
  case atStart => exact ⟨0, xs, Nat.zero_le _, rfl, by simp, hide rfl, hide (by simp [marksP]), h, World.grownBy.refl _ _⟩
  case round =>
    obtain ⟨j, ys, hj, rfl, rfl, hyl, hyt, hown, hg⟩ := hrel
    by_cases hlt : j < xs.length
    · have hyl' := hyl.out
      obtain ⟨g, x, y, hA, hgb, hgs, hy, hgc, hgd, hgf, hgg, hsx, hsy⟩ := hown.at_ (k := j) (by omega)
      subst hA
      obtain ⟨o1, g1⟩ := hsx (k0 + 2 * (j : Int))
      obtain ⟨g', x', y', hg', _, _, hy', hgc', hgd', hgf', hgg', _, hsy'⟩ := o1.at_ (k := j) (by rw [List.length_set]; omega)
      injection hg' with hg'; injection hg' with hg'; subst hg'
      rw [List.getElem?_set_self (by omega)] at hy'
      injection hy' with hy'; injection hy' with e1 e2
      subst e1 e2
      obtain ⟨o2, g2⟩ := hsy' (k0 + 2 * (j : Int) + 1)
      rw [List.set_set] at o2
      have HO := hide o2
      have HG := hide (grown_trans hg (grown_trans g1 g2))
      have HT := hide (marksP_set k0 (by omega) hyt.out)
      have HY : Hid ((ys.set j (k0 + 2 * (j : Int), k0 + 2 * (j : Int) + 1)).length = xs.length) := by rw [Hid, List.length_set]; exact hyl'
      clear hsx hsy hsy' o1 o2 g1 g2 hyt hyl hyl' hy
      go_wp2_with fail
      go_roundw
      case rel => exact ⟨j + 1, _, by omega, by go_num, by go_num, HY, HT, HO.out, HG.out⟩
      case measure => simp [intOf]; omega
    · go_wp2_with fail
      go_ret
      have hjj : j = xs.length := by omega
      have hyt' := hyt.out
      have hyl' := hyl.out
      rw [hjj, List.take_of_length_le (by omega)] at hyt'
      subst hyt'
      exact ⟨ret_int (by omega), hown, hg⟩

set_option maxHeartbeats 1000000 in
theorem heldPointS_any (A : Option Addr) (c n : Nat) (k0 : Int) (w : World) (h : RP w A (marksP k0 n)) (hn : n ≤ 1048576) (h0 : 0 ≤ k0) (h1 : k0 ≤ 4294967296) :
    Calls Try.prog 21 #[.slice A n c, .int .i64 k0] w (RetV w (.int .i64 (k0 + 2 * (n : Int)))) := by
  go_enter Try.func21, Try.ntmps21
  go_wp2
  go_loop [1, 5] (fun kk i => ∃ (j : Nat), j ≤ n ∧ i = .int .i64 j ∧ kk = .int .i64 (k0 + 2 * (j : Int)))
    (fun _ i => n - (intOf i).toNat)
  case atStart => exact ⟨0, Nat.zero_le _, rfl, by simp⟩
  case round =>
    obtain ⟨j, hj, rfl, rfl⟩ := hrel
    by_cases hlt : j < n
    · obtain ⟨b, off, x, y, hA, hb, hx, hc, hd⟩ := h.at_ (k := j) (by rw [marksP_length]; omega)
      subst hA
      rw [marksP_at k0 hlt] at hx
      injection hx with hx
      injection hx with e1 e2
      subst e1 e2
      have hne : (k0 + 2 * (j : Int) != k0 + 2 * (j : Int)) = false := by simp
      have hne2 : (k0 + 2 * (j : Int) + 1 != k0 + 2 * (j : Int) + 1) = false := by simp
      go_wp2_with fail
      go_round
      case rel => exact ⟨j + 1, by omega, by go_num, by go_num⟩
      case measure => simp [intOf]; omega
    · go_wp2_with fail
      go_ret
      exact ⟨ret_int (by omega), Below.refl _ _⟩

/-- A function that hands back a row of points of its own, and a code. -/
def RetPSC (w : World) (ps : List (Int × Int)) (code : Int) (e : Ending) (w' : World) : Prop :=
  ∃ A c, e = .returned (.tuple #[.slice A ps.length c, .int .i64 code]) ∧ OwnP w' w.heap.size A c ps ∧ Below w.heap.size w w'

set_option maxHeartbeats 400000 in
theorem pointsClone_any (A : Option Addr) (c : Nat) (xs : List (Int × Int)) (w : World) (h : RP w A xs) (hn : xs.length ≤ 1048576) :
    Calls Try.prog 41 #[.slice A xs.length c] w (RetPS w xs) := by
  have he : Own ptE (w.alloc (.cells #[] 30)) w.heap.size (some ⟨w.heap.size, 0, none⟩) 0 [] := Own.new (E := ptE) w [] #[] rfl (Nat.le_refl _) (by simp)
  have hr : RG ptE (w.alloc (.cells #[] 30)) A xs := RP.alloc h (.cells #[] 30)
  cases A with
  | none =>
    have hx : xs = [] := by
      rcases Nat.eq_zero_or_pos xs.length with h0 | h0
      · exact List.eq_nil_of_length_eq_zero h0
      · obtain ⟨b, off, x, y, e, _⟩ := h.at_ h0
        cases e
    subst hx
    have hq : ∀ W : World, (binOp .eql 25 (.slice none 0 c) (.slice none 0 0)).run Try.prog W = .ok (.bool true) W := fun W => Lib.run_eql_slice_nil W _ _ _ _ _ _ _ Try.underlying25
    go_enter Try.func41, Try.ntmps41
    go_wp2
    go_ret
    exact ⟨none, 0, rfl, OwnP.nil _ _, Below.refl _ _⟩
  | some a =>
    have hq : ∀ W : World, (binOp .eql 25 (.slice (some a) xs.length c) (.slice none 0 0)).run Try.prog W = .ok (.bool false) W := fun W => Lib.run_eql_slice_nil W _ _ _ _ _ _ _ Try.underlying25
    go_enter Try.func41, Try.ntmps41
    go_wp2_with (at_builtin; refine wpList_append_row ptE rfl (.tmp 5) (.tmp 6) rfl w.heap.size _ 0 [] rfl he (some a) c xs rfl hr (by simp; omega) (by simp [ptE]; omega) (by simp) xs rfl ?_; intro A' c' w' ho' hg' hb')
    go_ret
    exact ⟨A', c', rfl, ho', ((Below.refl _ _).alloc (Nat.le_refl _) _).grown hg' (by simp) (fun k hk => by have := blk_inj hk; omega)⟩
end Go.Proofs.Ytbleipaekdhdmaa
