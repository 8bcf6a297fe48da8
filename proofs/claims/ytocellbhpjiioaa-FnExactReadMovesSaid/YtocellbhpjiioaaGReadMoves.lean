/-
  The walk of the law ReadMoves. Conditions: none.
-/
import Derived.Test.YtocellbhpjiioaaReadM
import Derived.Test.YtocellbhpjiioaaMoveMark
namespace Go.Proofs.Ytocellbhpjiioaa
open Go.RowKit
set_option linter.unusedVariables false

theorem bytes_str (s : ByteArray) : ∃ l : List UInt8, s = ⟨l.toArray⟩ ∧ l.length = s.size := by
  obtain ⟨d⟩ := s
  exact ⟨d.toList, by simp, by show d.toList.length = d.size; simp⟩
set_option maxRecDepth 20000 in
set_option maxHeartbeats 8000000 in
theorem walk_ReadMoves_str (w : World) (l : List UInt8) (hl : l.length ≤ 9223372036854775807) :
    Calls Try.prog 4 #[str l] w fun e w' => e = .returned (.bool true) ∧ Below w.heap.size w w' := by
  have hlen := fun (W : World) => str_len_ (P := Try.prog) W 9 Try.underlying9 3 l
  by_cases hn : l.length ≤ 1048576
  · have f1 : ¬ ((1048576 : Int) < (l.length : Int)) := by omega
    have HS := hide (fun W => specReadMoves_any l W hn)
    have HI := hide (fun W => implReadMoves_any l W hn)
    have hX := readR_len l
    obtain ⟨X, hX2⟩ : ∃ X, X = (readR l).1 := ⟨_, rfl⟩
    obtain ⟨v, hv⟩ : ∃ v, v = (readR l).2 := ⟨_, rfl⟩
    rw [← hX2, ← hv] at HS HI
    rw [← hX2] at hX
    clear hX2 hv
    have hne : (v != v) = false := by cases v <;> rfl
    have hee : ∀ (A B : Option Addr) (c d : Nat) (W : World), RG mvE W A X → RG mvE W B X → Calls Try.prog 25 #[.slice A X.length c, .slice B X.length d] W (RetV W (.bool true)) := fun A B c d W h1 h2 => by
      have h := eqMoveS_any A B c d X X W h1 h2 (by omega) (by omega)
      rw [decide_eq_true rfl] at h
      exact h
    have HE := hide hee
    clear hee
    go_enter Try.func4, Try.ntmps4
    go_wp2_with fail
    refine (HS.out _).mono ?_
    rintro e w1 ⟨A1, c1, rfl, o1, hb1⟩
    have z_1 : w.heap.size ≤ w1.heap.size := hb1.size
    have B_1 := (Below.refl w.heap.size w).trans (hb1.mono (by first | omega | (simp; omega) | simp))
    go_wp2_with fail
    refine (HI.out _).mono ?_
    rintro e w2 ⟨A2, c2, rfl, o2, hb2⟩
    have o1_2 := (o1).below hb2
    have z_2 : w1.heap.size ≤ w2.heap.size := hb2.size
    have B_2 := (B_1).trans (hb2.mono (by first | omega | (simp; omega) | simp))
    go_wp2_with fail
    refine (HE.out _ _ _ _ _ ((o2)).rd ((o1_2)).rd).mono ?_
    rintro e w3 ⟨rfl, hb3⟩
    have o1_3 := (o1_2).below hb3
    have o2_3 := (o2).below hb3
    have z_3 : w2.heap.size ≤ w3.heap.size := hb3.size
    have B_3 := (B_2).trans (hb3.mono (by first | omega | (simp; omega) | simp))
    go_wp2_with fail
    refine (markMoveS_any A2 c2 _ X 1 _ o2_3 (by omega) (by omega) (by omega)).mono ?_
    rintro e w4 ⟨rfl, o2_4, hg4⟩
    have o1_4 := (o1_3.rd).grown hg4 (by
      by_cases hbn : blk A1 = none
      · exact .inl hbn
      · refine .inr (fun e => ?_)
        obtain ⟨g, hg⟩ : ∃ g, blk A1 = some g := ⟨_, (Option.ne_none_iff_exists'.1 hbn).choose_spec⟩
        have h1 := (o1.ge hg).2
        have h2 := (o2.ge (e ▸ hg)).1
        omega)
    have hz4 := hg4.size
    have B_4 := B_3.grown hg4 (by omega) (fun q hq => by have := (o2.ge hq).1; have := z_2; have := z_1; omega)
    go_wp2_with fail
    refine (heldMoveS_any A2 c2 X.length 1 _ o2_4.rd (by omega) (by omega) (by omega)).mono ?_
    rintro e w5 ⟨rfl, hb5⟩
    have o1_5 := o1_4.below hb5
    have o2_5 := o2_4.below hb5
    have B_5 := B_4.trans (hb5.mono B_4.size)
    have f2 : ¬ (1 + 3 * (X.length : Int) < 0) := by omega
    have f3 : (1 + 3 * (X.length : Int) != 1 + 3 * (X.length : Int)) = false := by simp
    go_wp2_with fail
    refine (HI.out _).mono ?_
    rintro e w6 ⟨A6, c6, rfl, o6, hb6⟩
    have o1_6 := o1_5.below hb6
    have o2_6 := o2_5.below hb6
    have B_6 := B_5.trans (hb6.mono B_5.size)
    go_wp2_with fail
    refine (HE.out _ _ _ _ _ o6.rd o1_6).mono ?_
    rintro e w7 ⟨rfl, hb7⟩
    have o2_7 := o2_6.below hb7
    have B_7 := B_6.trans (hb7.mono B_6.size)
    go_wp2_with fail
    refine (heldMoveS_any A2 c2 X.length 1 _ o2_7.rd (by omega) (by omega) (by omega)).mono ?_
    rintro e w8 ⟨rfl, hb8⟩
    have B_8 := B_7.trans (hb8.mono B_7.size)
    go_wp2_with fail
    go_ret
    exact ⟨rfl, B_8⟩
  · have f1 : (1048576 : Int) < (l.length : Int) := by omega
    go_enter Try.func4, Try.ntmps4
    go_wp2_with fail
    go_ret
    exact ⟨rfl, Below.refl _ _⟩
theorem walk_ReadMoves (w : World) (s : ByteArray) (hs : s.size ≤ maxLen) : Calls Try.prog 4 #[.string s] w fun e w' => e = .returned (.bool true) ∧ Below w.heap.size w w' := by
  obtain ⟨l, rfl, hl⟩ := bytes_str s
  exact walk_ReadMoves_str w l (by rw [hl]; simpa [maxLen] using hs)
end Go.Proofs.Ytocellbhpjiioaa
