/-
  Contracts: the nearest point of a panel, as the reference and as the program find it. Conditions: none beyond the lengths.
-/
import Derived.Test.YtbleipaekdhdmaaNearMath
import Derived.Test.YtbleipaekdhdmaaPts2
import Derived.Outline
namespace Go.Proofs.Ytbleipaekdhdmaa
open Go.RowKit
set_option linter.unusedVariables false

theorem sq_bd {a : Int} (h1 : -2000 ≤ a) (h2 : a ≤ 2000) : 0 ≤ a * a ∧ a * a ≤ 4000000 := by
  refine ⟨mul_self_nn a, ?_⟩
  rcases Int.le_total 0 a with h | h
  · have : a * a ≤ 2000 * a := Int.mul_le_mul_of_nonneg_right h2 h
    omega
  · have : (-a) * (-a) ≤ 2000 * (-a) := Int.mul_le_mul_of_nonneg_right (by omega) (by omega)
    rw [Int.neg_mul_neg] at this
    omega
theorem mul_scale {a s : Int} (a0 : 0 ≤ a) (a1 : a ≤ 17) (s0 : 0 ≤ s) (s1 : s ≤ 100) : 0 ≤ a * s ∧ a * s ≤ 1700 := by
  refine ⟨Int.mul_nonneg a0 s0, ?_⟩
  have h1 : a * s ≤ 17 * s := Int.mul_le_mul_of_nonneg_right a1 s0
  omega

theorem l19Square_any (px py ax ay s : Int) (w : World) (p0 : 0 ≤ px) (p1 : px ≤ 2000) (p2 : 0 ≤ py) (p3 : py ≤ 2000) (a0 : 0 ≤ ax) (a1 : ax ≤ 17) (a2 : 0 ≤ ay) (a3 : ay ≤ 17) (s0 : 2 ≤ s) (s1 : s ≤ 100) :
    Calls Try.prog 64 #[.agg #[.int .i64 px, .int .i64 py], .agg #[.int .i64 ax, .int .i64 ay], .int .i64 s] w (RetV w (.int .i64 (sqP s (px, py) (ax, ay)))) := by
  obtain ⟨m1, m2⟩ := mul_scale (s := s) a0 a1 (by omega) s1
  obtain ⟨m3, m4⟩ := mul_scale (s := s) a2 a3 (by omega) s1
  obtain ⟨q1, q2⟩ := sq_bd (a := px - ax * s) (by omega) (by omega)
  obtain ⟨q3, q4⟩ := sq_bd (a := py - ay * s) (by omega) (by omega)
  go_enter Try.func64, Try.ntmps64
  go_wp2
  go_ret
  exact ⟨rfl, ((Below.refl _ _).alloc (Nat.le_refl _) _).alloc (by simp) _⟩

set_option maxHeartbeats 4000000 in
theorem allPoints_any (W H : Nat) (A : Option Addr) (c n : Nat) (w : World) (hW : W ≤ 8) (hH : H ≤ 8) :
    Calls Try.prog 68 #[.agg #[.int .i64 W, .int .i64 H, .slice A n c]] w (RetPS w (gridTo (2 * W + 1) (2 * H + 1))) := by
  have q0 : Bx (w.alloc (.cells #[.int .i64 W, .int .i64 H, .slice A n c] 49)) w.heap.size 49 #[.int .i64 W, .int .i64 H, .slice A n c] := Bx.new _ _ _
  have q1 := q0.alloc (.cells #[] 30)
  have he : Own ptE ((w.alloc (.cells #[.int .i64 W, .int .i64 H, .slice A n c] 49)).alloc (.cells #[] 30)) w.heap.size (some ⟨w.heap.size + 1, 0, none⟩) 0 [] := Own.new_ (E := ptE) _ _ [] #[] (by simp) rfl (by simp) (by simp)
  have hgl := fun y => gridTo_len (2 * W + 1) y
  have HG := hide hgl
  clear hgl q0
  go_enter Try.func68, Try.ntmps68
  go_wp2
  go_loopw [3, 11] (fun o yy wr => ∃ (y : Nat) (A1 : Option Addr) (c1 : Nat) (zs : List (Int × Int)), y ≤ 2 * H + 1 ∧ yy = .int .i64 y ∧ o = .slice A1 zs.length c1 ∧ Hid (zs = gridTo (2 * W + 1) y) ∧ Own ptE wr w.heap.size A1 c1 zs ∧ Hid (blk A1 ≠ some w.heap.size) ∧ Bx wr w.heap.size 49 #[.int .i64 W, .int .i64 H, .slice A n c] ∧ Below w.heap.size w wr) (fun _ yy _ => 2 * H + 1 - (intOf yy).toNat)
  case atStart => exact ⟨0, _, 0, [], Nat.zero_le _, rfl, rfl, hide rfl, he, hide (fun e => by have := blk_inj e; omega), q1, ((Below.refl _ _).alloc (Nat.le_refl _) _).alloc (by simp) _⟩
  case round =>
    obtain ⟨y, A1, c1, zs, hy, rfl, rfl, hzs, own, hne, bx, hB⟩ := hrel
    clear he q1
    obtain ⟨wo, rfl⟩ : ∃ wo : World, wo = wr := ⟨_, rfl⟩
    obtain ⟨ba, bb, bc⟩ := bx.three
    by_cases hlt : y < 2 * H + 1
    · have hlt' : (y : Int) < 2 * (H : Int) + 1 := by omega
      go_wp2_with fail
      go_loopw [3, 5, 18] (fun o s5 xx wr => ∃ (x : Nat) (A1 : Option Addr) (c1 : Nat) (zs : List (Int × Int)), x ≤ 2 * W + 1 ∧ xx = .int .i64 x ∧ o = .slice A1 zs.length c1 ∧ Hid (zs = gridTo (2 * W + 1) y ++ rowTo y x) ∧ Own ptE wr w.heap.size A1 c1 zs ∧ Hid (blk A1 ≠ some w.heap.size) ∧ Bx wr w.heap.size 49 #[.int .i64 W, .int .i64 H, .slice A n c] ∧ Below w.heap.size w wr) (fun _ _ xx _ => 2 * W + 1 - (intOf xx).toNat)
      case atStart => exact ⟨0, _, _, zs, Nat.zero_le _, rfl, rfl, hide (by rw [hzs.out, rowTo_zero, List.append_nil]), own, hne, bx, hB⟩
      case round =>
        clear own hne bx hB hzs ba bb bc
        obtain ⟨x, A2, c2, zs2, hx, rfl, rfl, hzs, own, hne, bx, hB⟩ := hrel
        have hz := hB.size
        have hbl := bx.lt
        have hl := HG.out y
        have hl2 := rowTo_len y x
        have hl3 : zs2.length ≤ 400 := by
          rw [hzs.out, List.length_append]
          have : y * (2 * W + 1) ≤ 17 * 17 := Nat.mul_le_mul (by omega) (by omega)
          omega
        clear hl hl2
        obtain ⟨ba, bb, bc⟩ := bx.three
        by_cases hx2 : x < 2 * W + 1
        · have hx3 : (x : Int) < 2 * (W : Int) + 1 := by omega
          by_cases hp : (x + y) % 2 = 1
          · have ht : (((x : Int) + (y : Int)) % 2 == 1) = true := by rw [beq_iff_eq]; omega
            obtain ⟨zs3, hzs3⟩ : ∃ zs3, zs3 = zs2 ++ [((x : Int), (y : Int))] := ⟨_, rfl⟩
            have HZ3 := hide hzs3
            have HN : Hid (zs3 = gridTo (2 * W + 1) y ++ rowTo y (x + 1)) := hide (by rw [hzs3, hzs.out, rowTo_yes hp, List.append_assoc])
            clear hzs hp hzs3
            go_wp2_with (at_builtin; refine wpList_append_row ptE rfl (.tmp 26) (.tmp 30) rfl w.heap.size A2 c2 zs2 rfl (own.alloc _) (some ⟨wr.heap.size, 0, none⟩) 1 [((x : Int), (y : Int))] rfl (RG.fresh (E := ptE) _ _ rfl _ #[.int .i64 x, .int .i64 y] rfl _) (by simp; omega) (by simp [ptE]; omega) (by simp; omega) zs3 HZ3.out ?_; intro A3 c3 w3 own3 hg3 hb3)
            go_roundw
            case rel => exact ⟨x + 1, A3, c3, zs3, by omega, by go_num, rfl, HN, own3, hide (by
                rcases hb3 with e | e
                · rw [e]; exact hne.out
                · rw [e]; intro e2; injection e2 with e2; simp at e2; omega), (bx.alloc _).grown hg3 (.inr hne.out), (hB.alloc (by omega) _).grown hg3 (by simp; omega) (fun k hk => (own.ge hk).1)⟩
            case measure => simp [intOf]; omega
          · have ht : (((x : Int) + (y : Int)) % 2 == 1) = false := by rw [beq_eq_false_iff_ne]; omega
            have HN : Hid (zs2 = gridTo (2 * W + 1) y ++ rowTo y (x + 1)) := hide (by rw [hzs.out, rowTo_no hp])
            clear hzs hp
            go_wp2_with fail
            go_roundw
            case rel => exact ⟨x + 1, A2, c2, zs2, by omega, by go_num, rfl, HN, own, hne, bx, hB⟩
            case measure => simp [intOf]; omega
        · have hx3 : ¬ (x : Int) < 2 * (W : Int) + 1 := by omega
          have HN : Hid (zs2 = gridTo (2 * W + 1) (y + 1)) := hide (by rw [hzs.out, gridTo_next, show x = 2 * W + 1 by omega])
          clear hzs
          go_wp2_with fail
          go_roundw
          case rel => exact ⟨y + 1, A2, c2, zs2, by omega, by go_num, rfl, HN, own, hne, bx, hB⟩
          case measure => simp [intOf]; omega
    · have hlt' : ¬ (y : Int) < 2 * (H : Int) + 1 := by omega
      have hz2 := hzs.out
      rw [show y = 2 * H + 1 by omega] at hz2
      have HZ := hide hz2
      clear hzs hz2
      go_wp2_with fail
      go_ret
      have := HZ.out
      subst this
      exact ⟨A1, c1, rfl, own, hB⟩
end Go.Proofs.Ytbleipaekdhdmaa
