/-
  Contracts: MulPolys and ShiftPoly, of the reference and of the program. Conditions: none beyond the lengths.
-/
import Derived.Test.YtffiejlfnecanaaPolyTopI
import Derived.Test.YtffiejlfnecanaaPolyShift
namespace Go.Proofs.Ytffiejlfnecanaa
open Go.RowKit
set_option linter.unusedVariables false

def mulPR (l0 : Int) (xs0 : List Int) (l1 : Int) (xs1 : List Int) : Int × List Int × Int :=
  if vldP l0 xs0 = true ∧ vldP l1 xs1 = true then (if smallP xs0 = true ∧ smallP xs1 = true then resP (mulP l0 xs0 l1 xs1) else (0, [], 5)) else (0, [], 1)
def shiftPR (l : Int) (xs : List Int) (p t : Int) : Int × List Int × Int :=
  if vldP l xs = true then (if inB p (-1000) 1000 = true ∧ inB t (-1000) 1000 = true then resP (shiftP l xs p t) else (0, [], 2)) else (0, [], 1)
theorem mulP_le (l0 : Int) (xs0 : List Int) (l1 : Int) (xs1 : List Int) (n0 : xs0.length ≤ 400) (n1 : xs1.length ≤ 400) : (mulP l0 xs0 l1 xs1).2.length ≤ 1048576 := by
  unfold mulP
  split
  · simp
  · have := trimS_le (l0 + l1) (mulTo (xs0.length + xs1.length - 1) xs0 xs1 xs0.length)
    rw [mulTo_length] at this
    omega
theorem shiftP_le (l : Int) (xs : List Int) (p t : Int) (n0 : xs.length ≤ 400) : (shiftP l xs p t).2.length ≤ 1048576 := by
  unfold shiftP
  have := trimS_le (l + p) (rowW t xs)
  rw [rowW_length] at this
  omega
theorem mulPR_le (l0 : Int) (xs0 : List Int) (l1 : Int) (xs1 : List Int) : (mulPR l0 xs0 l1 xs1).2.1.length ≤ 1048576 := by
  unfold mulPR
  split
  · rename_i h
    obtain ⟨_, _, bc, _⟩ := vldP_bounds h.1
    obtain ⟨_, _, bf, _⟩ := vldP_bounds h.2
    split
    · exact Nat.le_trans (resP_le _) (mulP_le _ _ _ _ bc bf)
    · simp
  · simp
theorem shiftPR_le (l : Int) (xs : List Int) (p t : Int) : (shiftPR l xs p t).2.1.length ≤ 1048576 := by
  unfold shiftPR
  split
  · rename_i h
    obtain ⟨_, _, bc, _⟩ := vldP_bounds h
    split
    · exact Nat.le_trans (resP_le _) (shiftP_le _ _ _ _ bc)
    · simp
  · simp

set_option maxHeartbeats 4000000 in
theorem specMulPolys_any (l0 : Int) (A0 : Option Addr) (c0 : Nat) (xs0 : List Int) (l1 : Int) (A1 : Option Addr) (c1 : Nat) (xs1 : List Int) (w : World) (h0 : RI w A0 xs0) (h1 : RI w A1 xs1) (n0 : xs0.length ≤ 1048576) (n1 : xs1.length ≤ 1048576) :
    Calls Try.prog 11 #[.agg #[.int .i64 l0, .slice A0 xs0.length c0], .agg #[.int .i64 l1, .slice A1 xs1.length c1]] w (RetPC w (mulPR l0 xs0 l1 xs1).1 (mulPR l0 xs0 l1 xs1).2.1 (mulPR l0 xs0 l1 xs1).2.2) := by
  obtain ⟨p0a_x1, p0b_x1⟩ := (((Bx.new_ w (w.heap.size) 26 #[.int .i64 l0, .slice A0 xs0.length c0] (by simp)).alloc (.cells #[.int .i64 l1, .slice A1 xs1.length c1] 26)).alloc (.cells #[.int .i64 0, .slice none 0 0] 26)).two
  obtain ⟨p1a_x1, p1b_x1⟩ := ((Bx.new_ (w.alloc (.cells #[.int .i64 l0, .slice A0 xs0.length c0] 26)) (w.heap.size + 1) 26 #[.int .i64 l1, .slice A1 xs1.length c1] (by simp)).alloc (.cells #[.int .i64 0, .slice none 0 0] 26)).two
  have hB := ((((Below.refl w.heap.size w).alloc (by first | omega | (simp; omega) | simp) (.cells #[.int .i64 l0, .slice A0 xs0.length c0] 26)).alloc (by first | omega | (simp; omega) | simp) (.cells #[.int .i64 l1, .slice A1 xs1.length c1] 26)).alloc (by first | omega | (simp; omega) | simp) (.cells #[.int .i64 0, .slice none 0 0] 26))
  cases v0 : vldP l0 xs0
  · have HF := hide (show mulPR l0 xs0 l1 xs1 = (0, [], 1) by unfold mulPR; rw [if_neg (by rw [v0]; simp)])
    go_enter Try.func11, Try.ntmps11
    go_wp2_with fail
    refine (l18Ok_any _ _ l0 A0 c0 xs0 _ p0a_x1 p0b_x1 ((((h0).alloc (.cells #[.int .i64 l0, .slice A0 xs0.length c0] 26)).alloc (.cells #[.int .i64 l1, .slice A1 xs1.length c1] 26)).alloc (.cells #[.int .i64 0, .slice none 0 0] 26)) n0).mono ?_
    rintro e w' ⟨rfl, rfl⟩
    go_wp2_with fail
    refine bodyPost_ret (v := .tuple #[.agg #[.int .i64 0, .slice none 0 0], .int .i64 1]) (by simp [results, Try.results11, go_sem]) rfl ?_
    rw [HF.out]
    exact ⟨none, 0, rfl, OwnI.nil _ _, hB⟩
  · cases v1 : vldP l1 xs1
    · have HF := hide (show mulPR l0 xs0 l1 xs1 = (0, [], 1) by unfold mulPR; rw [if_neg (by rw [v1]; simp)])
      go_enter Try.func11, Try.ntmps11
      go_wp2_with fail
      refine (l18Ok_any _ _ l0 A0 c0 xs0 _ p0a_x1 p0b_x1 ((((h0).alloc (.cells #[.int .i64 l0, .slice A0 xs0.length c0] 26)).alloc (.cells #[.int .i64 l1, .slice A1 xs1.length c1] 26)).alloc (.cells #[.int .i64 0, .slice none 0 0] 26)) n0).mono ?_
      rintro e w' ⟨rfl, rfl⟩
      go_wp2_with fail
      refine (l18Ok_any _ _ l1 A1 c1 xs1 _ p1a_x1 p1b_x1 ((((h1).alloc (.cells #[.int .i64 l0, .slice A0 xs0.length c0] 26)).alloc (.cells #[.int .i64 l1, .slice A1 xs1.length c1] 26)).alloc (.cells #[.int .i64 0, .slice none 0 0] 26)) n1).mono ?_
      rintro e w' ⟨rfl, rfl⟩
      go_wp2_with fail
      refine bodyPost_ret (v := .tuple #[.agg #[.int .i64 0, .slice none 0 0], .int .i64 1]) (by simp [results, Try.results11, go_sem]) rfl ?_
      rw [HF.out]
      exact ⟨none, 0, rfl, OwnI.nil _ _, hB⟩
    · obtain ⟨ba, bb, bc, _⟩ := vldP_bounds v0
      obtain ⟨bd, be, bf, _⟩ := vldP_bounds v1
      cases s0 : smallP xs0
      · have HF := hide (show mulPR l0 xs0 l1 xs1 = (0, [], 5) by unfold mulPR; rw [if_pos ⟨v0, v1⟩, if_neg (by rw [s0]; simp)])
        go_enter Try.func11, Try.ntmps11
        go_wp2_with fail
        refine (l18Ok_any _ _ l0 A0 c0 xs0 _ p0a_x1 p0b_x1 ((((h0).alloc (.cells #[.int .i64 l0, .slice A0 xs0.length c0] 26)).alloc (.cells #[.int .i64 l1, .slice A1 xs1.length c1] 26)).alloc (.cells #[.int .i64 0, .slice none 0 0] 26)) n0).mono ?_
        rintro e w' ⟨rfl, rfl⟩
        go_wp2_with fail
        refine (l18Ok_any _ _ l1 A1 c1 xs1 _ p1a_x1 p1b_x1 ((((h1).alloc (.cells #[.int .i64 l0, .slice A0 xs0.length c0] 26)).alloc (.cells #[.int .i64 l1, .slice A1 xs1.length c1] 26)).alloc (.cells #[.int .i64 0, .slice none 0 0] 26)) n1).mono ?_
        rintro e w' ⟨rfl, rfl⟩
        go_wp2_with fail
        refine (l18Small_any _ _ l0 A0 c0 xs0 _ p0a_x1 p0b_x1 ((((h0).alloc (.cells #[.int .i64 l0, .slice A0 xs0.length c0] 26)).alloc (.cells #[.int .i64 l1, .slice A1 xs1.length c1] 26)).alloc (.cells #[.int .i64 0, .slice none 0 0] 26)) n0).mono ?_
        rintro e w' ⟨rfl, rfl⟩
        go_wp2_with fail
        refine bodyPost_ret (v := .tuple #[.agg #[.int .i64 0, .slice none 0 0], .int .i64 5]) (by simp [results, Try.results11, go_sem]) rfl ?_
        rw [HF.out]
        exact ⟨none, 0, rfl, OwnI.nil _ _, hB⟩
      · cases s1 : smallP xs1
        · have HF := hide (show mulPR l0 xs0 l1 xs1 = (0, [], 5) by unfold mulPR; rw [if_pos ⟨v0, v1⟩, if_neg (by rw [s1]; simp)])
          go_enter Try.func11, Try.ntmps11
          go_wp2_with fail
          refine (l18Ok_any _ _ l0 A0 c0 xs0 _ p0a_x1 p0b_x1 ((((h0).alloc (.cells #[.int .i64 l0, .slice A0 xs0.length c0] 26)).alloc (.cells #[.int .i64 l1, .slice A1 xs1.length c1] 26)).alloc (.cells #[.int .i64 0, .slice none 0 0] 26)) n0).mono ?_
          rintro e w' ⟨rfl, rfl⟩
          go_wp2_with fail
          refine (l18Ok_any _ _ l1 A1 c1 xs1 _ p1a_x1 p1b_x1 ((((h1).alloc (.cells #[.int .i64 l0, .slice A0 xs0.length c0] 26)).alloc (.cells #[.int .i64 l1, .slice A1 xs1.length c1] 26)).alloc (.cells #[.int .i64 0, .slice none 0 0] 26)) n1).mono ?_
          rintro e w' ⟨rfl, rfl⟩
          go_wp2_with fail
          refine (l18Small_any _ _ l0 A0 c0 xs0 _ p0a_x1 p0b_x1 ((((h0).alloc (.cells #[.int .i64 l0, .slice A0 xs0.length c0] 26)).alloc (.cells #[.int .i64 l1, .slice A1 xs1.length c1] 26)).alloc (.cells #[.int .i64 0, .slice none 0 0] 26)) n0).mono ?_
          rintro e w' ⟨rfl, rfl⟩
          go_wp2_with fail
          refine (l18Small_any _ _ l1 A1 c1 xs1 _ p1a_x1 p1b_x1 ((((h1).alloc (.cells #[.int .i64 l0, .slice A0 xs0.length c0] 26)).alloc (.cells #[.int .i64 l1, .slice A1 xs1.length c1] 26)).alloc (.cells #[.int .i64 0, .slice none 0 0] 26)) n1).mono ?_
          rintro e w' ⟨rfl, rfl⟩
          go_wp2_with fail
          refine bodyPost_ret (v := .tuple #[.agg #[.int .i64 0, .slice none 0 0], .int .i64 5]) (by simp [results, Try.results11, go_sem]) rfl ?_
          rw [HF.out]
          exact ⟨none, 0, rfl, OwnI.nil _ _, hB⟩
        · have HF := hide (show mulPR l0 xs0 l1 xs1 = resP (mulP l0 xs0 l1 xs1) by unfold mulPR; rw [if_pos ⟨v0, v1⟩, if_pos ⟨s0, s1⟩])
          have HL := hide (mulP_le l0 xs0 l1 xs1 bc bf)
          go_enter Try.func11, Try.ntmps11
          go_wp2_with fail
          refine (l18Ok_any _ _ l0 A0 c0 xs0 _ p0a_x1 p0b_x1 ((((h0).alloc (.cells #[.int .i64 l0, .slice A0 xs0.length c0] 26)).alloc (.cells #[.int .i64 l1, .slice A1 xs1.length c1] 26)).alloc (.cells #[.int .i64 0, .slice none 0 0] 26)) n0).mono ?_
          rintro e w' ⟨rfl, rfl⟩
          go_wp2_with fail
          refine (l18Ok_any _ _ l1 A1 c1 xs1 _ p1a_x1 p1b_x1 ((((h1).alloc (.cells #[.int .i64 l0, .slice A0 xs0.length c0] 26)).alloc (.cells #[.int .i64 l1, .slice A1 xs1.length c1] 26)).alloc (.cells #[.int .i64 0, .slice none 0 0] 26)) n1).mono ?_
          rintro e w' ⟨rfl, rfl⟩
          go_wp2_with fail
          refine (l18Small_any _ _ l0 A0 c0 xs0 _ p0a_x1 p0b_x1 ((((h0).alloc (.cells #[.int .i64 l0, .slice A0 xs0.length c0] 26)).alloc (.cells #[.int .i64 l1, .slice A1 xs1.length c1] 26)).alloc (.cells #[.int .i64 0, .slice none 0 0] 26)) n0).mono ?_
          rintro e w' ⟨rfl, rfl⟩
          go_wp2_with fail
          refine (l18Small_any _ _ l1 A1 c1 xs1 _ p1a_x1 p1b_x1 ((((h1).alloc (.cells #[.int .i64 l0, .slice A0 xs0.length c0] 26)).alloc (.cells #[.int .i64 l1, .slice A1 xs1.length c1] 26)).alloc (.cells #[.int .i64 0, .slice none 0 0] 26)) n1).mono ?_
          rintro e w' ⟨rfl, rfl⟩
          go_wp2_with fail
          refine (l18Mul_any l0 A0 c0 xs0 l1 A1 c1 xs1 _ ((((h0).alloc (.cells #[.int .i64 l0, .slice A0 xs0.length c0] 26)).alloc (.cells #[.int .i64 l1, .slice A1 xs1.length c1] 26)).alloc (.cells #[.int .i64 0, .slice none 0 0] 26)) ((((h1).alloc (.cells #[.int .i64 l0, .slice A0 xs0.length c0] 26)).alloc (.cells #[.int .i64 l1, .slice A1 xs1.length c1] 26)).alloc (.cells #[.int .i64 0, .slice none 0 0] 26)) (by omega) (by omega) (by omega) (by omega) n0 n1).mono ?_
          rintro e w3 ⟨A3, c3, rfl, ho, hb3⟩
          have r0_3 := ((((h0).alloc (.cells #[.int .i64 l0, .slice A0 xs0.length c0] 26)).alloc (.cells #[.int .i64 l1, .slice A1 xs1.length c1] 26)).alloc (.cells #[.int .i64 0, .slice none 0 0] 26)).below hb3
          have r1_3 := ((((h1).alloc (.cells #[.int .i64 l0, .slice A0 xs0.length c0] 26)).alloc (.cells #[.int .i64 l1, .slice A1 xs1.length c1] 26)).alloc (.cells #[.int .i64 0, .slice none 0 0] 26)).below hb3
          have p0_3 := (((Bx.new_ w (w.heap.size) 26 #[.int .i64 l0, .slice A0 xs0.length c0] (by simp)).alloc (.cells #[.int .i64 l1, .slice A1 xs1.length c1] 26)).alloc (.cells #[.int .i64 0, .slice none 0 0] 26)).below hb3
          obtain ⟨p0a_3, p0b_3⟩ := (p0_3).two
          have p1_3 := ((Bx.new_ (w.alloc (.cells #[.int .i64 l0, .slice A0 xs0.length c0] 26)) (w.heap.size + 1) 26 #[.int .i64 l1, .slice A1 xs1.length c1] (by simp)).alloc (.cells #[.int .i64 0, .slice none 0 0] 26)).below hb3
          obtain ⟨p1a_3, p1b_3⟩ := (p1_3).two
          have p2_3 := (Bx.new_ ((w.alloc (.cells #[.int .i64 l0, .slice A0 xs0.length c0] 26)).alloc (.cells #[.int .i64 l1, .slice A1 xs1.length c1] 26)) (w.heap.size + 1 + 1) 26 #[.int .i64 0, .slice none 0 0] (by simp)).below hb3
          obtain ⟨p2a_3, p2b_3⟩ := (p2_3).two
          have p2f0_3 := (p2_3).frozen 0
          have p2f1_3 := (p2_3).frozen 1
          have z_3 : (((w.alloc (.cells #[.int .i64 l0, .slice A0 xs0.length c0] 26)).alloc (.cells #[.int .i64 l1, .slice A1 xs1.length c1] 26)).alloc (.cells #[.int .i64 0, .slice none 0 0] 26)).heap.size ≤ w3.heap.size := hb3.size
          simp only [World.size_alloc] at z_3
          have B_3 := ((((Below.refl w.heap.size w).alloc (by first | omega | (simp; omega) | simp) (.cells #[.int .i64 l0, .slice A0 xs0.length c0] 26)).alloc (by first | omega | (simp; omega) | simp) (.cells #[.int .i64 l1, .slice A1 xs1.length c1] 26)).alloc (by first | omega | (simp; omega) | simp) (.cells #[.int .i64 0, .slice none 0 0] 26)).trans (hb3.mono (by first | omega | (simp; omega) | simp))
          have hl := HL.out
          obtain ⟨S, hS⟩ : ∃ S, mulP l0 xs0 l1 xs1 = S := ⟨_, rfl⟩
          rw [hS] at hl ho HF
          rw [hS]
          obtain ⟨L, X⟩ := S
          have HF2 := HF.out
          have hl2 : X.length ≤ 1048576 := hl
          have ho2 : OwnI w3 _ A3 c3 X := ho
          clear hl ho hS HF HL
          cases v3 : vldP L X
          · have HR := hide (HF2.trans (resP_no (p := (L, X)) v3))
            go_wp2_with fail
            refine (l18Checked_no L A3 c3 X _ ho2.rd hl2 v3).mono ?_
            rintro e w9 ⟨rfl, hb9⟩
            have r0_9 := (r0_3).below hb9
            have r1_9 := (r1_3).below hb9
            have p0_9 := (p0_3).below hb9
            obtain ⟨p0a_9, p0b_9⟩ := (p0_9).two
            have p1_9 := (p1_3).below hb9
            obtain ⟨p1a_9, p1b_9⟩ := (p1_9).two
            have p2_9 := (p2_3).below hb9
            obtain ⟨p2a_9, p2b_9⟩ := (p2_9).two
            have p2f0_9 := (p2_9).frozen 0
            have p2f1_9 := (p2_9).frozen 1
            have z_9 : w3.heap.size ≤ w9.heap.size := hb9.size
            have B_9 := (B_3).trans (hb9.mono (by first | omega | (simp; omega) | simp))
            go_wp2_with fail
            refine bodyPost_ret (v := .tuple #[.agg #[.int .i64 0, .slice none 0 0], .int .i64 5]) (by simp [results, Try.results11, go_sem, p2a_9, p2b_9]) rfl ?_
            rw [HR.out]
            exact ⟨none, 0, rfl, OwnI.nil _ _, (B_9.setCell (by first | omega | (simp; omega) | simp) _).setCell (by first | omega | (simp; omega) | simp) _⟩
          · have HR := hide (HF2.trans (resP_yes (p := (L, X)) v3))
            go_wp2_with fail
            refine (l18Checked_yes L A3 c3 X _ ho2.rd hl2 v3).mono ?_
            rintro e w9 ⟨rfl, hb9⟩
            have r0_9 := (r0_3).below hb9
            have r1_9 := (r1_3).below hb9
            have p0_9 := (p0_3).below hb9
            obtain ⟨p0a_9, p0b_9⟩ := (p0_9).two
            have p1_9 := (p1_3).below hb9
            obtain ⟨p1a_9, p1b_9⟩ := (p1_9).two
            have p2_9 := (p2_3).below hb9
            obtain ⟨p2a_9, p2b_9⟩ := (p2_9).two
            have p2f0_9 := (p2_9).frozen 0
            have p2f1_9 := (p2_9).frozen 1
            have ho_9 := (ho2).below hb9
            have z_9 : w3.heap.size ≤ w9.heap.size := hb9.size
            have B_9 := (B_3).trans (hb9.mono (by first | omega | (simp; omega) | simp))
            go_wp2_with fail
            refine bodyPost_ret (v := .tuple #[.agg #[.int .i64 L, .slice A3 X.length c3], .int .i64 0]) (by simp [results, Try.results11, go_sem, p2a_9, p2b_9]) rfl ?_
            rw [HR.out]
            exact ⟨A3, c3, rfl, ((ho_9.setLow (by first | omega | (simp; omega) | simp) _).setLow (by first | omega | (simp; omega) | simp) _).mono (by first | omega | (simp; omega) | simp), (B_9.setCell (by first | omega | (simp; omega) | simp) _).setCell (by first | omega | (simp; omega) | simp) _⟩

set_option maxHeartbeats 8000000 in
theorem implMulPolys_any (l0 : Int) (A0 : Option Addr) (c0 : Nat) (xs0 : List Int) (l1 : Int) (A1 : Option Addr) (c1 : Nat) (xs1 : List Int) (w : World) (h0 : RI w A0 xs0) (h1 : RI w A1 xs1) (n0 : xs0.length ≤ 1048576) (n1 : xs1.length ≤ 1048576)
    (k0 : xs0.length ≤ c0 ∧ c0 ≤ 9223372036854775807) (k1 : xs1.length ≤ c1 ∧ c1 ≤ 9223372036854775807) :
    Calls Try.prog 8 #[.agg #[.int .i64 l0, .slice A0 xs0.length c0], .agg #[.int .i64 l1, .slice A1 xs1.length c1]] w (RetPC w (mulPR l0 xs0 l1 xs1).1 (mulPR l0 xs0 l1 xs1).2.1 (mulPR l0 xs0 l1 xs1).2.2) := by
  cases v0 : vldP l0 xs0
  · have HF := hide (show mulPR l0 xs0 l1 xs1 = (0, [], 1) by unfold mulPR; rw [if_neg (by rw [v0]; simp)])
    go_enter Try.func8, Try.ntmps8
    go_wp2_with fail
    refine (implValidPoly_any l0 A0 c0 xs0 _ ((((h0).alloc (.cells #[.int .i64 l0, .slice A0 xs0.length c0] 26)).alloc (.cells #[.int .i64 l1, .slice A1 xs1.length c1] 26)).alloc (.cells #[.int .i64 0, .slice none 0 0] 26)) n0).mono ?_
    rintro e w1 ⟨rfl, hb1⟩
    have r0_1 := ((((h0).alloc (.cells #[.int .i64 l0, .slice A0 xs0.length c0] 26)).alloc (.cells #[.int .i64 l1, .slice A1 xs1.length c1] 26)).alloc (.cells #[.int .i64 0, .slice none 0 0] 26)).below hb1
    have r1_1 := ((((h1).alloc (.cells #[.int .i64 l0, .slice A0 xs0.length c0] 26)).alloc (.cells #[.int .i64 l1, .slice A1 xs1.length c1] 26)).alloc (.cells #[.int .i64 0, .slice none 0 0] 26)).below hb1
    have p0_1 := (((Bx.new_ w (w.heap.size) 26 #[.int .i64 l0, .slice A0 xs0.length c0] (by simp)).alloc (.cells #[.int .i64 l1, .slice A1 xs1.length c1] 26)).alloc (.cells #[.int .i64 0, .slice none 0 0] 26)).below hb1
    obtain ⟨p0a_1, p0b_1⟩ := (p0_1).two
    have p1_1 := ((Bx.new_ (w.alloc (.cells #[.int .i64 l0, .slice A0 xs0.length c0] 26)) (w.heap.size + 1) 26 #[.int .i64 l1, .slice A1 xs1.length c1] (by simp)).alloc (.cells #[.int .i64 0, .slice none 0 0] 26)).below hb1
    obtain ⟨p1a_1, p1b_1⟩ := (p1_1).two
    have p2_1 := (Bx.new_ ((w.alloc (.cells #[.int .i64 l0, .slice A0 xs0.length c0] 26)).alloc (.cells #[.int .i64 l1, .slice A1 xs1.length c1] 26)) (w.heap.size + 1 + 1) 26 #[.int .i64 0, .slice none 0 0] (by simp)).below hb1
    obtain ⟨p2a_1, p2b_1⟩ := (p2_1).two
    have p2f0_1 := (p2_1).frozen 0
    have p2f1_1 := (p2_1).frozen 1
    have z_1 : (((w.alloc (.cells #[.int .i64 l0, .slice A0 xs0.length c0] 26)).alloc (.cells #[.int .i64 l1, .slice A1 xs1.length c1] 26)).alloc (.cells #[.int .i64 0, .slice none 0 0] 26)).heap.size ≤ w1.heap.size := hb1.size
    simp only [World.size_alloc] at z_1
    have B_1 := ((((Below.refl w.heap.size w).alloc (by first | omega | (simp; omega) | simp) (.cells #[.int .i64 l0, .slice A0 xs0.length c0] 26)).alloc (by first | omega | (simp; omega) | simp) (.cells #[.int .i64 l1, .slice A1 xs1.length c1] 26)).alloc (by first | omega | (simp; omega) | simp) (.cells #[.int .i64 0, .slice none 0 0] 26)).trans (hb1.mono (by first | omega | (simp; omega) | simp))
    go_wp2_with fail
    refine bodyPost_ret (v := .tuple #[.agg #[.int .i64 0, .slice none 0 0], .int .i64 1]) (by simp [results, Try.results8, go_sem, p2a_1, p2b_1]) rfl ?_
    rw [HF.out]
    exact ⟨none, 0, rfl, OwnI.nil _ _, (B_1.setCell (by first | omega | (simp; omega) | simp) _).setCell (by first | omega | (simp; omega) | simp) _⟩
  · cases v1 : vldP l1 xs1
    · have HF := hide (show mulPR l0 xs0 l1 xs1 = (0, [], 1) by unfold mulPR; rw [if_neg (by rw [v1]; simp)])
      go_enter Try.func8, Try.ntmps8
      go_wp2_with fail
      refine (implValidPoly_any l0 A0 c0 xs0 _ ((((h0).alloc (.cells #[.int .i64 l0, .slice A0 xs0.length c0] 26)).alloc (.cells #[.int .i64 l1, .slice A1 xs1.length c1] 26)).alloc (.cells #[.int .i64 0, .slice none 0 0] 26)) n0).mono ?_
      rintro e w1 ⟨rfl, hb1⟩
      have r0_1 := ((((h0).alloc (.cells #[.int .i64 l0, .slice A0 xs0.length c0] 26)).alloc (.cells #[.int .i64 l1, .slice A1 xs1.length c1] 26)).alloc (.cells #[.int .i64 0, .slice none 0 0] 26)).below hb1
      have r1_1 := ((((h1).alloc (.cells #[.int .i64 l0, .slice A0 xs0.length c0] 26)).alloc (.cells #[.int .i64 l1, .slice A1 xs1.length c1] 26)).alloc (.cells #[.int .i64 0, .slice none 0 0] 26)).below hb1
      have p0_1 := (((Bx.new_ w (w.heap.size) 26 #[.int .i64 l0, .slice A0 xs0.length c0] (by simp)).alloc (.cells #[.int .i64 l1, .slice A1 xs1.length c1] 26)).alloc (.cells #[.int .i64 0, .slice none 0 0] 26)).below hb1
      obtain ⟨p0a_1, p0b_1⟩ := (p0_1).two
      have p1_1 := ((Bx.new_ (w.alloc (.cells #[.int .i64 l0, .slice A0 xs0.length c0] 26)) (w.heap.size + 1) 26 #[.int .i64 l1, .slice A1 xs1.length c1] (by simp)).alloc (.cells #[.int .i64 0, .slice none 0 0] 26)).below hb1
      obtain ⟨p1a_1, p1b_1⟩ := (p1_1).two
      have p2_1 := (Bx.new_ ((w.alloc (.cells #[.int .i64 l0, .slice A0 xs0.length c0] 26)).alloc (.cells #[.int .i64 l1, .slice A1 xs1.length c1] 26)) (w.heap.size + 1 + 1) 26 #[.int .i64 0, .slice none 0 0] (by simp)).below hb1
      obtain ⟨p2a_1, p2b_1⟩ := (p2_1).two
      have p2f0_1 := (p2_1).frozen 0
      have p2f1_1 := (p2_1).frozen 1
      have z_1 : (((w.alloc (.cells #[.int .i64 l0, .slice A0 xs0.length c0] 26)).alloc (.cells #[.int .i64 l1, .slice A1 xs1.length c1] 26)).alloc (.cells #[.int .i64 0, .slice none 0 0] 26)).heap.size ≤ w1.heap.size := hb1.size
      simp only [World.size_alloc] at z_1
      have B_1 := ((((Below.refl w.heap.size w).alloc (by first | omega | (simp; omega) | simp) (.cells #[.int .i64 l0, .slice A0 xs0.length c0] 26)).alloc (by first | omega | (simp; omega) | simp) (.cells #[.int .i64 l1, .slice A1 xs1.length c1] 26)).alloc (by first | omega | (simp; omega) | simp) (.cells #[.int .i64 0, .slice none 0 0] 26)).trans (hb1.mono (by first | omega | (simp; omega) | simp))
      go_wp2_with fail
      refine (implValidPoly_any l1 A1 c1 xs1 _ (r1_1) n1).mono ?_
      rintro e w2 ⟨rfl, hb2⟩
      have r0_2 := (r0_1).below hb2
      have r1_2 := (r1_1).below hb2
      have p0_2 := (p0_1).below hb2
      obtain ⟨p0a_2, p0b_2⟩ := (p0_2).two
      have p1_2 := (p1_1).below hb2
      obtain ⟨p1a_2, p1b_2⟩ := (p1_2).two
      have p2_2 := (p2_1).below hb2
      obtain ⟨p2a_2, p2b_2⟩ := (p2_2).two
      have p2f0_2 := (p2_2).frozen 0
      have p2f1_2 := (p2_2).frozen 1
      have z_2 : w1.heap.size ≤ w2.heap.size := hb2.size
      have B_2 := (B_1).trans (hb2.mono (by first | omega | (simp; omega) | simp))
      go_wp2_with fail
      refine bodyPost_ret (v := .tuple #[.agg #[.int .i64 0, .slice none 0 0], .int .i64 1]) (by simp [results, Try.results8, go_sem, p2a_2, p2b_2]) rfl ?_
      rw [HF.out]
      exact ⟨none, 0, rfl, OwnI.nil _ _, (B_2.setCell (by first | omega | (simp; omega) | simp) _).setCell (by first | omega | (simp; omega) | simp) _⟩
    · obtain ⟨ba, bb, bc, _⟩ := vldP_bounds v0
      obtain ⟨bd, be, bf, _⟩ := vldP_bounds v1
      have hix0 : ∀ W : World, (Instr.index 44 (.agg #[.int .i64 l0, .slice A0 xs0.length c0, .int .i64 l1, .slice A1 xs1.length c1]) (.int .i64 0)).run Try.prog W = .ok (.agg #[.int .i64 l0, .slice A0 xs0.length c0]) W := fun _ => by kernel_rfl
      have hix1 : ∀ W : World, (Instr.index 44 (.agg #[.int .i64 l0, .slice A0 xs0.length c0, .int .i64 l1, .slice A1 xs1.length c1]) (.int .i64 1)).run Try.prog W = .ok (.agg #[.int .i64 l1, .slice A1 xs1.length c1]) W := fun _ => by kernel_rfl
      go_enter Try.func8, Try.ntmps8
      go_wp2_with fail
      refine (implValidPoly_any l0 A0 c0 xs0 _ ((((h0).alloc (.cells #[.int .i64 l0, .slice A0 xs0.length c0] 26)).alloc (.cells #[.int .i64 l1, .slice A1 xs1.length c1] 26)).alloc (.cells #[.int .i64 0, .slice none 0 0] 26)) n0).mono ?_
      rintro e w1 ⟨rfl, hb1⟩
      have r0_1 := ((((h0).alloc (.cells #[.int .i64 l0, .slice A0 xs0.length c0] 26)).alloc (.cells #[.int .i64 l1, .slice A1 xs1.length c1] 26)).alloc (.cells #[.int .i64 0, .slice none 0 0] 26)).below hb1
      have r1_1 := ((((h1).alloc (.cells #[.int .i64 l0, .slice A0 xs0.length c0] 26)).alloc (.cells #[.int .i64 l1, .slice A1 xs1.length c1] 26)).alloc (.cells #[.int .i64 0, .slice none 0 0] 26)).below hb1
      have p0_1 := (((Bx.new_ w (w.heap.size) 26 #[.int .i64 l0, .slice A0 xs0.length c0] (by simp)).alloc (.cells #[.int .i64 l1, .slice A1 xs1.length c1] 26)).alloc (.cells #[.int .i64 0, .slice none 0 0] 26)).below hb1
      obtain ⟨p0a_1, p0b_1⟩ := (p0_1).two
      have p1_1 := ((Bx.new_ (w.alloc (.cells #[.int .i64 l0, .slice A0 xs0.length c0] 26)) (w.heap.size + 1) 26 #[.int .i64 l1, .slice A1 xs1.length c1] (by simp)).alloc (.cells #[.int .i64 0, .slice none 0 0] 26)).below hb1
      obtain ⟨p1a_1, p1b_1⟩ := (p1_1).two
      have p2_1 := (Bx.new_ ((w.alloc (.cells #[.int .i64 l0, .slice A0 xs0.length c0] 26)).alloc (.cells #[.int .i64 l1, .slice A1 xs1.length c1] 26)) (w.heap.size + 1 + 1) 26 #[.int .i64 0, .slice none 0 0] (by simp)).below hb1
      obtain ⟨p2a_1, p2b_1⟩ := (p2_1).two
      have p2f0_1 := (p2_1).frozen 0
      have p2f1_1 := (p2_1).frozen 1
      have z_1 : (((w.alloc (.cells #[.int .i64 l0, .slice A0 xs0.length c0] 26)).alloc (.cells #[.int .i64 l1, .slice A1 xs1.length c1] 26)).alloc (.cells #[.int .i64 0, .slice none 0 0] 26)).heap.size ≤ w1.heap.size := hb1.size
      simp only [World.size_alloc] at z_1
      have B_1 := ((((Below.refl w.heap.size w).alloc (by first | omega | (simp; omega) | simp) (.cells #[.int .i64 l0, .slice A0 xs0.length c0] 26)).alloc (by first | omega | (simp; omega) | simp) (.cells #[.int .i64 l1, .slice A1 xs1.length c1] 26)).alloc (by first | omega | (simp; omega) | simp) (.cells #[.int .i64 0, .slice none 0 0] 26)).trans (hb1.mono (by first | omega | (simp; omega) | simp))
      go_wp2_with fail
      refine (implValidPoly_any l1 A1 c1 xs1 _ (r1_1) n1).mono ?_
      rintro e w2 ⟨rfl, hb2⟩
      have r0_2 := (r0_1).below hb2
      have r1_2 := (r1_1).below hb2
      have p0_2 := (p0_1).below hb2
      obtain ⟨p0a_2, p0b_2⟩ := (p0_2).two
      have p1_2 := (p1_1).below hb2
      obtain ⟨p1a_2, p1b_2⟩ := (p1_2).two
      have p2_2 := (p2_1).below hb2
      obtain ⟨p2a_2, p2b_2⟩ := (p2_2).two
      have p2f0_2 := (p2_2).frozen 0
      have p2f1_2 := (p2_2).frozen 1
      have z_2 : w1.heap.size ≤ w2.heap.size := hb2.size
      have B_2 := (B_1).trans (hb2.mono (by first | omega | (simp; omega) | simp))
      go_wp2_with fail
      go_loopw [22] (fun i wr => ∃ (t : Int), (t = 0 ∨ t = 1 ∨ t = 2) ∧ i = .int .i64 t ∧ Hid (1 ≤ t → smallP xs0 = true) ∧ Hid (t = 2 → smallP xs1 = true) ∧ Bx wr (w.heap.size) 26 #[.int .i64 l0, .slice A0 xs0.length c0] ∧ Bx wr (w.heap.size + 1) 26 #[.int .i64 l1, .slice A1 xs1.length c1] ∧ Bx wr (w.heap.size + 1 + 1) 26 #[.int .i64 0, .slice none 0 0] ∧ Below w.heap.size w wr) (fun i _ => (2 - intOf i).toNat)
      case atStart => exact ⟨0, .inl rfl, rfl, hide (fun h => by omega), hide (fun h => by omega), p0_2, p1_2, p2_2, B_2⟩
      case round =>
        clear p0_1 p1_1 p2_1 p0_2 p1_2 p2_2 B_1 B_2 z_1 z_2
        obtain ⟨t, ht, rfl, hs0, hs1, p0, p1, p2, hB⟩ := hrel
        obtain ⟨wo, rfl⟩ : ∃ wo : World, wo = wr := ⟨_, rfl⟩
        have z := hB.size
        have hp2 := p2.lt
        obtain ⟨p0a_x1, p0b_x1⟩ := (p0).two
        obtain ⟨p1a_x1, p1b_x1⟩ := (p1).two
        obtain ⟨p2a_x1, p2b_x1⟩ := (p2).two
        have p2f0_x1 := (p2).frozen 0
        have p2f1_x1 := (p2).frozen 1
        rcases ht with rfl | rfl | rfl
        · have hnone : True := trivial
          obtain ⟨p0a_m0, p0b_m0⟩ := ((p0).alloc (.cells #[.int .i64 l0, .slice A0 xs0.length c0] 26)).two
          obtain ⟨p1a_m0, p1b_m0⟩ := ((p1).alloc (.cells #[.int .i64 l0, .slice A0 xs0.length c0] 26)).two
          obtain ⟨p2a_m0, p2b_m0⟩ := ((p2).alloc (.cells #[.int .i64 l0, .slice A0 xs0.length c0] 26)).two
          have p2f0_m0 := ((p2).alloc (.cells #[.int .i64 l0, .slice A0 xs0.length c0] 26)).frozen 0
          have p2f1_m0 := ((p2).alloc (.cells #[.int .i64 l0, .slice A0 xs0.length c0] 26)).frozen 1
          have rr := (h0.below hB).alloc (.cells #[.int .i64 l0, .slice A0 xs0.length c0] 26)
          have hBp := ((hB).alloc (by first | omega | (simp; omega) | simp) (.cells #[.int .i64 l0, .slice A0 xs0.length c0] 26))
          have qq0 := ((p0).alloc (.cells #[.int .i64 l0, .slice A0 xs0.length c0] 26))
          have qq1 := ((p1).alloc (.cells #[.int .i64 l0, .slice A0 xs0.length c0] 26))
          have qq2 := ((p2).alloc (.cells #[.int .i64 l0, .slice A0 xs0.length c0] 26))
          go_wp2_with fail
          go_loop [28] (fun i => ∃ k : Nat, k ≤ xs0.length ∧ i = .int .i64 k ∧ Hid ((xs0.take k).all smallB = true)) (fun i => xs0.length - (intOf i).toNat)
          case atStart => exact ⟨0, Nat.zero_le _, rfl, hide (by simp)⟩
          case round =>
            obtain ⟨k, hk, rfl, hall⟩ := hrel
            by_cases hlt : k < xs0.length
            · obtain ⟨b, off, x, hA, hb, hx, hc⟩ := rr.at_ hlt
              by_cases hcx : smallB x = true
              · have HA := hide (all_next hx hall.out hcx)
                have hcx' : inB x (-1000000) 1000000 = true := hcx
                subst hA
                go_wp2_with (go_at_call 24; refine (inRange_any _ _ _ _).mono ?_; rintro e w' ⟨rfl, rfl⟩)
                go_round
                case rel => exact ⟨k + 1, by omega, by go_num, HA⟩
                case measure => simp [intOf]; omega
              · have hcx' : inB x (-1000000) 1000000 = false := by rw [Bool.not_eq_true] at hcx; exact hcx
                subst hA
                have HF := hide (show mulPR l0 xs0 l1 xs1 = (0, [], 5) by
                  have hs : smallP xs0 = false := all_bad hx hcx'
                  unfold mulPR
                  rw [if_pos ⟨v0, v1⟩, if_neg (by rw [hs]; simp)])
                have pz : Bx (((wo.setCell ⟨w.heap.size + 1 + 1, 0, none⟩ (.int .i64 0)).setCell ⟨w.heap.size + 1 + 1, 1, none⟩ (.slice none 0 0)).alloc (.cells #[.int .i64 l0, .slice (some ⟨b, off, none⟩) xs0.length c0] 26)) (w.heap.size + 1 + 1) 26 #[.int .i64 0, .slice none 0 0] := ((p2.set_ 0 (.int .i64 0)).set_ 1 (.slice none 0 0)).alloc _
                obtain ⟨pza, pzb⟩ := pz.two
                go_wp2_with (go_at_call 24; refine (inRange_any _ _ _ _).mono ?_; rintro e w' ⟨rfl, rfl⟩)
                refine bodyPost_ret (v := .tuple #[.agg #[.int .i64 0, .slice none 0 0], .int .i64 5]) (by simp [results, Try.results8, go_sem, pza, pzb]) rfl ?_
                rw [HF.out]
                exact ⟨none, 0, rfl, OwnI.nil _ _, ((hB.setCell (by simp; omega) _).setCell (by simp; omega) _).alloc (by simp; omega) _⟩
            · have hall' := hall.out
              rw [show k = xs0.length by omega, List.take_of_length_le (Nat.le_refl _)] at hall'
              have HV := hide (show smallP xs0 = true from hall')
              clear hall hall'
              go_wp2_with fail
              go_roundw
              case rel => exact ⟨1, by omega, rfl, hide (fun _ => HV.out), hide (fun h => by omega), qq0, qq1, qq2, hBp⟩
              case measure => simp [intOf]
        · have hnone : True := trivial
          obtain ⟨p0a_m1, p0b_m1⟩ := ((p0).alloc (.cells #[.int .i64 l1, .slice A1 xs1.length c1] 26)).two
          obtain ⟨p1a_m1, p1b_m1⟩ := ((p1).alloc (.cells #[.int .i64 l1, .slice A1 xs1.length c1] 26)).two
          obtain ⟨p2a_m1, p2b_m1⟩ := ((p2).alloc (.cells #[.int .i64 l1, .slice A1 xs1.length c1] 26)).two
          have p2f0_m1 := ((p2).alloc (.cells #[.int .i64 l1, .slice A1 xs1.length c1] 26)).frozen 0
          have p2f1_m1 := ((p2).alloc (.cells #[.int .i64 l1, .slice A1 xs1.length c1] 26)).frozen 1
          have rr := (h1.below hB).alloc (.cells #[.int .i64 l1, .slice A1 xs1.length c1] 26)
          have hBp := ((hB).alloc (by first | omega | (simp; omega) | simp) (.cells #[.int .i64 l1, .slice A1 xs1.length c1] 26))
          have qq0 := ((p0).alloc (.cells #[.int .i64 l1, .slice A1 xs1.length c1] 26))
          have qq1 := ((p1).alloc (.cells #[.int .i64 l1, .slice A1 xs1.length c1] 26))
          have qq2 := ((p2).alloc (.cells #[.int .i64 l1, .slice A1 xs1.length c1] 26))
          go_wp2_with fail
          go_loop [28] (fun i => ∃ k : Nat, k ≤ xs1.length ∧ i = .int .i64 k ∧ Hid ((xs1.take k).all smallB = true)) (fun i => xs1.length - (intOf i).toNat)
          case atStart => exact ⟨0, Nat.zero_le _, rfl, hide (by simp)⟩
          case round =>
            obtain ⟨k, hk, rfl, hall⟩ := hrel
            by_cases hlt : k < xs1.length
            · obtain ⟨b, off, x, hA, hb, hx, hc⟩ := rr.at_ hlt
              by_cases hcx : smallB x = true
              · have HA := hide (all_next hx hall.out hcx)
                have hcx' : inB x (-1000000) 1000000 = true := hcx
                subst hA
                go_wp2_with (go_at_call 24; refine (inRange_any _ _ _ _).mono ?_; rintro e w' ⟨rfl, rfl⟩)
                go_round
                case rel => exact ⟨k + 1, by omega, by go_num, HA⟩
                case measure => simp [intOf]; omega
              · have hcx' : inB x (-1000000) 1000000 = false := by rw [Bool.not_eq_true] at hcx; exact hcx
                subst hA
                have HF := hide (show mulPR l0 xs0 l1 xs1 = (0, [], 5) by
                  have hs : smallP xs1 = false := all_bad hx hcx'
                  unfold mulPR
                  rw [if_pos ⟨v0, v1⟩, if_neg (by rw [hs]; simp)])
                have pz : Bx (((wo.setCell ⟨w.heap.size + 1 + 1, 0, none⟩ (.int .i64 0)).setCell ⟨w.heap.size + 1 + 1, 1, none⟩ (.slice none 0 0)).alloc (.cells #[.int .i64 l1, .slice (some ⟨b, off, none⟩) xs1.length c1] 26)) (w.heap.size + 1 + 1) 26 #[.int .i64 0, .slice none 0 0] := ((p2.set_ 0 (.int .i64 0)).set_ 1 (.slice none 0 0)).alloc _
                obtain ⟨pza, pzb⟩ := pz.two
                go_wp2_with (go_at_call 24; refine (inRange_any _ _ _ _).mono ?_; rintro e w' ⟨rfl, rfl⟩)
                refine bodyPost_ret (v := .tuple #[.agg #[.int .i64 0, .slice none 0 0], .int .i64 5]) (by simp [results, Try.results8, go_sem, pza, pzb]) rfl ?_
                rw [HF.out]
                exact ⟨none, 0, rfl, OwnI.nil _ _, ((hB.setCell (by simp; omega) _).setCell (by simp; omega) _).alloc (by simp; omega) _⟩
            · have hall' := hall.out
              rw [show k = xs1.length by omega, List.take_of_length_le (Nat.le_refl _)] at hall'
              have HV := hide (show smallP xs1 = true from hall')
              clear hall hall'
              go_wp2_with fail
              go_roundw
              case rel => exact ⟨2, by omega, rfl, hide (fun _ => hs0.out (by omega)), hide (fun _ => HV.out), qq0, qq1, qq2, hBp⟩
              case measure => simp [intOf]
        · have hnone : True := trivial
          have HF := hide (show mulPR l0 xs0 l1 xs1 = resP (mulP l0 xs0 l1 xs1) by unfold mulPR; rw [if_pos ⟨v0, v1⟩, if_pos ⟨hs0.out (by omega), hs1.out rfl⟩])
          have HL := hide (mulP_le l0 xs0 l1 xs1 bc bf)
          have r0' := h0.below hB
          have r1' := h1.below hB
          go_wp2_with fail
          refine (mulPolys_any l0 A0 c0 xs0 l1 A1 c1 xs1 _ r0' r1' (by omega) (by omega) (by omega) (by omega) n0 n1).mono ?_
          rintro e w3 ⟨A3, c3, rfl, ho, hb3⟩
          have p0_3 := (p0).below hb3
          obtain ⟨p0a_3, p0b_3⟩ := (p0_3).two
          have p1_3 := (p1).below hb3
          obtain ⟨p1a_3, p1b_3⟩ := (p1_3).two
          have p2_3 := (p2).below hb3
          obtain ⟨p2a_3, p2b_3⟩ := (p2_3).two
          have p2f0_3 := (p2_3).frozen 0
          have p2f1_3 := (p2_3).frozen 1
          have z_3 : wo.heap.size ≤ w3.heap.size := hb3.size
          have B_3 := (hB).trans (hb3.mono (by first | omega | (simp; omega) | simp))
          have hl := HL.out
          obtain ⟨S, hS⟩ : ∃ S, mulP l0 xs0 l1 xs1 = S := ⟨_, rfl⟩
          rw [hS] at hl ho HF
          rw [hS]
          obtain ⟨L, X⟩ := S
          have HF2 := HF.out
          have hl2 : X.length ≤ 1048576 := hl
          have ho2 : OwnI w3 _ A3 c3 X := ho
          clear hl ho hS HF HL
          cases v3 : vldP L X
          · have HR := hide (HF2.trans (resP_no (p := (L, X)) v3))
            go_wp2_with fail
            refine (polyResult_no L A3 c3 X _ ho2.rd hl2 v3).mono ?_
            rintro e w9 ⟨rfl, hb9⟩
            have p0_9 := (p0_3).below hb9
            obtain ⟨p0a_9, p0b_9⟩ := (p0_9).two
            have p1_9 := (p1_3).below hb9
            obtain ⟨p1a_9, p1b_9⟩ := (p1_9).two
            have p2_9 := (p2_3).below hb9
            obtain ⟨p2a_9, p2b_9⟩ := (p2_9).two
            have p2f0_9 := (p2_9).frozen 0
            have p2f1_9 := (p2_9).frozen 1
            have z_9 : w3.heap.size ≤ w9.heap.size := hb9.size
            have B_9 := (B_3).trans (hb9.mono (by first | omega | (simp; omega) | simp))
            go_wp2_with fail
            refine bodyPost_ret (v := .tuple #[.agg #[.int .i64 0, .slice none 0 0], .int .i64 5]) (by simp [results, Try.results8, go_sem, p2a_9, p2b_9]) rfl ?_
            rw [HR.out]
            exact ⟨none, 0, rfl, OwnI.nil _ _, (B_9.setCell (by first | omega | (simp; omega) | simp) _).setCell (by first | omega | (simp; omega) | simp) _⟩
          · have HR := hide (HF2.trans (resP_yes (p := (L, X)) v3))
            go_wp2_with fail
            refine (polyResult_yes L A3 c3 X _ ho2.rd hl2 v3).mono ?_
            rintro e w9 ⟨rfl, hb9⟩
            have p0_9 := (p0_3).below hb9
            obtain ⟨p0a_9, p0b_9⟩ := (p0_9).two
            have p1_9 := (p1_3).below hb9
            obtain ⟨p1a_9, p1b_9⟩ := (p1_9).two
            have p2_9 := (p2_3).below hb9
            obtain ⟨p2a_9, p2b_9⟩ := (p2_9).two
            have p2f0_9 := (p2_9).frozen 0
            have p2f1_9 := (p2_9).frozen 1
            have ho_9 := (ho2).below hb9
            have z_9 : w3.heap.size ≤ w9.heap.size := hb9.size
            have B_9 := (B_3).trans (hb9.mono (by first | omega | (simp; omega) | simp))
            go_wp2_with fail
            refine bodyPost_ret (v := .tuple #[.agg #[.int .i64 L, .slice A3 X.length c3], .int .i64 0]) (by simp [results, Try.results8, go_sem, p2a_9, p2b_9]) rfl ?_
            rw [HR.out]
            exact ⟨A3, c3, rfl, ((ho_9.setLow (by first | omega | (simp; omega) | simp) _).setLow (by first | omega | (simp; omega) | simp) _).mono (by first | omega | (simp; omega) | simp), (B_9.setCell (by first | omega | (simp; omega) | simp) _).setCell (by first | omega | (simp; omega) | simp) _⟩
set_option maxHeartbeats 4000000 in
theorem implShiftPoly_any (l0 : Int) (A0 : Option Addr) (c0 : Nat) (xs0 : List Int) (p t : Int) (w : World) (h0 : RI w A0 xs0) (n0 : xs0.length ≤ 1048576) :
    Calls Try.prog 15 #[.agg #[.int .i64 l0, .slice A0 xs0.length c0], .int .i64 p, .int .i64 t] w (RetPC w (shiftPR l0 xs0 p t).1 (shiftPR l0 xs0 p t).2.1 (shiftPR l0 xs0 p t).2.2) := by
  cases v0 : vldP l0 xs0
  · have HF := hide (show shiftPR l0 xs0 p t = (0, [], 1) by unfold shiftPR; rw [if_neg (by rw [v0]; simp)])
    go_enter Try.func15, Try.ntmps15
    go_wp2_with fail
    refine (implValidPoly_any l0 A0 c0 xs0 _ (((h0).alloc (.cells #[.int .i64 l0, .slice A0 xs0.length c0] 26)).alloc (.cells #[.int .i64 0, .slice none 0 0] 26)) n0).mono ?_
    rintro e w1 ⟨rfl, hb1⟩
    have r0_1 := (((h0).alloc (.cells #[.int .i64 l0, .slice A0 xs0.length c0] 26)).alloc (.cells #[.int .i64 0, .slice none 0 0] 26)).below hb1
    have p0_1 := ((Bx.new_ w (w.heap.size) 26 #[.int .i64 l0, .slice A0 xs0.length c0] (by simp)).alloc (.cells #[.int .i64 0, .slice none 0 0] 26)).below hb1
    obtain ⟨p0a_1, p0b_1⟩ := (p0_1).two
    have p2_1 := (Bx.new_ (w.alloc (.cells #[.int .i64 l0, .slice A0 xs0.length c0] 26)) (w.heap.size + 1) 26 #[.int .i64 0, .slice none 0 0] (by simp)).below hb1
    obtain ⟨p2a_1, p2b_1⟩ := (p2_1).two
    have p2f0_1 := (p2_1).frozen 0
    have p2f1_1 := (p2_1).frozen 1
    have z_1 : ((w.alloc (.cells #[.int .i64 l0, .slice A0 xs0.length c0] 26)).alloc (.cells #[.int .i64 0, .slice none 0 0] 26)).heap.size ≤ w1.heap.size := hb1.size
    simp only [World.size_alloc] at z_1
    have B_1 := (((Below.refl w.heap.size w).alloc (by first | omega | (simp; omega) | simp) (.cells #[.int .i64 l0, .slice A0 xs0.length c0] 26)).alloc (by first | omega | (simp; omega) | simp) (.cells #[.int .i64 0, .slice none 0 0] 26)).trans (hb1.mono (by first | omega | (simp; omega) | simp))
    go_wp2_with fail
    refine bodyPost_ret (v := .tuple #[.agg #[.int .i64 0, .slice none 0 0], .int .i64 1]) (by simp [results, Try.results15, go_sem, p2a_1, p2b_1]) rfl ?_
    rw [HF.out]
    exact ⟨none, 0, rfl, OwnI.nil _ _, (B_1.setCell (by first | omega | (simp; omega) | simp) _).setCell (by first | omega | (simp; omega) | simp) _⟩
  · obtain ⟨ba, bb, bc, _⟩ := vldP_bounds v0
    cases i0 : inB p (-1000) 1000
    · have HF := hide (show shiftPR l0 xs0 p t = (0, [], 2) by unfold shiftPR; rw [if_pos v0, if_neg (by rw [i0]; simp)])
      go_enter Try.func15, Try.ntmps15
      go_wp2_with fail
      refine (implValidPoly_any l0 A0 c0 xs0 _ (((h0).alloc (.cells #[.int .i64 l0, .slice A0 xs0.length c0] 26)).alloc (.cells #[.int .i64 0, .slice none 0 0] 26)) n0).mono ?_
      rintro e w1 ⟨rfl, hb1⟩
      have r0_1 := (((h0).alloc (.cells #[.int .i64 l0, .slice A0 xs0.length c0] 26)).alloc (.cells #[.int .i64 0, .slice none 0 0] 26)).below hb1
      have p0_1 := ((Bx.new_ w (w.heap.size) 26 #[.int .i64 l0, .slice A0 xs0.length c0] (by simp)).alloc (.cells #[.int .i64 0, .slice none 0 0] 26)).below hb1
      obtain ⟨p0a_1, p0b_1⟩ := (p0_1).two
      have p2_1 := (Bx.new_ (w.alloc (.cells #[.int .i64 l0, .slice A0 xs0.length c0] 26)) (w.heap.size + 1) 26 #[.int .i64 0, .slice none 0 0] (by simp)).below hb1
      obtain ⟨p2a_1, p2b_1⟩ := (p2_1).two
      have p2f0_1 := (p2_1).frozen 0
      have p2f1_1 := (p2_1).frozen 1
      have z_1 : ((w.alloc (.cells #[.int .i64 l0, .slice A0 xs0.length c0] 26)).alloc (.cells #[.int .i64 0, .slice none 0 0] 26)).heap.size ≤ w1.heap.size := hb1.size
      simp only [World.size_alloc] at z_1
      have B_1 := (((Below.refl w.heap.size w).alloc (by first | omega | (simp; omega) | simp) (.cells #[.int .i64 l0, .slice A0 xs0.length c0] 26)).alloc (by first | omega | (simp; omega) | simp) (.cells #[.int .i64 0, .slice none 0 0] 26)).trans (hb1.mono (by first | omega | (simp; omega) | simp))
      go_wp2_with (go_at_call 24; refine (inRange_any _ _ _ _).mono ?_; rintro e w' ⟨rfl, rfl⟩)
      refine bodyPost_ret (v := .tuple #[.agg #[.int .i64 0, .slice none 0 0], .int .i64 2]) (by simp [results, Try.results15, go_sem, p2a_1, p2b_1]) rfl ?_
      rw [HF.out]
      exact ⟨none, 0, rfl, OwnI.nil _ _, (B_1.setCell (by first | omega | (simp; omega) | simp) _).setCell (by first | omega | (simp; omega) | simp) _⟩
    · cases i1 : inB t (-1000) 1000
      · have HF := hide (show shiftPR l0 xs0 p t = (0, [], 2) by unfold shiftPR; rw [if_pos v0, if_neg (by rw [i1]; simp)])
        go_enter Try.func15, Try.ntmps15
        go_wp2_with fail
        refine (implValidPoly_any l0 A0 c0 xs0 _ (((h0).alloc (.cells #[.int .i64 l0, .slice A0 xs0.length c0] 26)).alloc (.cells #[.int .i64 0, .slice none 0 0] 26)) n0).mono ?_
        rintro e w1 ⟨rfl, hb1⟩
        have r0_1 := (((h0).alloc (.cells #[.int .i64 l0, .slice A0 xs0.length c0] 26)).alloc (.cells #[.int .i64 0, .slice none 0 0] 26)).below hb1
        have p0_1 := ((Bx.new_ w (w.heap.size) 26 #[.int .i64 l0, .slice A0 xs0.length c0] (by simp)).alloc (.cells #[.int .i64 0, .slice none 0 0] 26)).below hb1
        obtain ⟨p0a_1, p0b_1⟩ := (p0_1).two
        have p2_1 := (Bx.new_ (w.alloc (.cells #[.int .i64 l0, .slice A0 xs0.length c0] 26)) (w.heap.size + 1) 26 #[.int .i64 0, .slice none 0 0] (by simp)).below hb1
        obtain ⟨p2a_1, p2b_1⟩ := (p2_1).two
        have p2f0_1 := (p2_1).frozen 0
        have p2f1_1 := (p2_1).frozen 1
        have z_1 : ((w.alloc (.cells #[.int .i64 l0, .slice A0 xs0.length c0] 26)).alloc (.cells #[.int .i64 0, .slice none 0 0] 26)).heap.size ≤ w1.heap.size := hb1.size
        simp only [World.size_alloc] at z_1
        have B_1 := (((Below.refl w.heap.size w).alloc (by first | omega | (simp; omega) | simp) (.cells #[.int .i64 l0, .slice A0 xs0.length c0] 26)).alloc (by first | omega | (simp; omega) | simp) (.cells #[.int .i64 0, .slice none 0 0] 26)).trans (hb1.mono (by first | omega | (simp; omega) | simp))
        go_wp2_with (go_at_call 24; refine (inRange_any _ _ _ _).mono ?_; rintro e w' ⟨rfl, rfl⟩)
        refine bodyPost_ret (v := .tuple #[.agg #[.int .i64 0, .slice none 0 0], .int .i64 2]) (by simp [results, Try.results15, go_sem, p2a_1, p2b_1]) rfl ?_
        rw [HF.out]
        exact ⟨none, 0, rfl, OwnI.nil _ _, (B_1.setCell (by first | omega | (simp; omega) | simp) _).setCell (by first | omega | (simp; omega) | simp) _⟩
      · have HF := hide (show shiftPR l0 xs0 p t = resP (shiftP l0 xs0 p t) by unfold shiftPR; rw [if_pos v0, if_pos ⟨i0, i1⟩])
        have HL := hide (shiftP_le l0 xs0 p t bc)
        obtain ⟨pa, pb⟩ := inB_true.1 i0
        go_enter Try.func15, Try.ntmps15
        go_wp2_with fail
        refine (implValidPoly_any l0 A0 c0 xs0 _ (((h0).alloc (.cells #[.int .i64 l0, .slice A0 xs0.length c0] 26)).alloc (.cells #[.int .i64 0, .slice none 0 0] 26)) n0).mono ?_
        rintro e w1 ⟨rfl, hb1⟩
        have r0_1 := (((h0).alloc (.cells #[.int .i64 l0, .slice A0 xs0.length c0] 26)).alloc (.cells #[.int .i64 0, .slice none 0 0] 26)).below hb1
        have p0_1 := ((Bx.new_ w (w.heap.size) 26 #[.int .i64 l0, .slice A0 xs0.length c0] (by simp)).alloc (.cells #[.int .i64 0, .slice none 0 0] 26)).below hb1
        obtain ⟨p0a_1, p0b_1⟩ := (p0_1).two
        have p2_1 := (Bx.new_ (w.alloc (.cells #[.int .i64 l0, .slice A0 xs0.length c0] 26)) (w.heap.size + 1) 26 #[.int .i64 0, .slice none 0 0] (by simp)).below hb1
        obtain ⟨p2a_1, p2b_1⟩ := (p2_1).two
        have p2f0_1 := (p2_1).frozen 0
        have p2f1_1 := (p2_1).frozen 1
        have z_1 : ((w.alloc (.cells #[.int .i64 l0, .slice A0 xs0.length c0] 26)).alloc (.cells #[.int .i64 0, .slice none 0 0] 26)).heap.size ≤ w1.heap.size := hb1.size
        simp only [World.size_alloc] at z_1
        have B_1 := (((Below.refl w.heap.size w).alloc (by first | omega | (simp; omega) | simp) (.cells #[.int .i64 l0, .slice A0 xs0.length c0] 26)).alloc (by first | omega | (simp; omega) | simp) (.cells #[.int .i64 0, .slice none 0 0] 26)).trans (hb1.mono (by first | omega | (simp; omega) | simp))
        go_wp2_with (go_at_call 24; refine (inRange_any _ _ _ _).mono ?_; rintro e w' ⟨rfl, rfl⟩)
        refine (shiftPoly_any l0 A0 c0 xs0 p t _ (r0_1) (by omega) (by omega) (by omega) (by omega) n0).mono ?_
        rintro e w3 ⟨A3, c3, rfl, ho, hb3⟩
        have r0_3 := (r0_1).below hb3
        have p0_3 := (p0_1).below hb3
        obtain ⟨p0a_3, p0b_3⟩ := (p0_3).two
        have p2_3 := (p2_1).below hb3
        obtain ⟨p2a_3, p2b_3⟩ := (p2_3).two
        have p2f0_3 := (p2_3).frozen 0
        have p2f1_3 := (p2_3).frozen 1
        have z_3 : w1.heap.size ≤ w3.heap.size := hb3.size
        have B_3 := (B_1).trans (hb3.mono (by first | omega | (simp; omega) | simp))
        have hl := HL.out
        obtain ⟨S, hS⟩ : ∃ S, shiftP l0 xs0 p t = S := ⟨_, rfl⟩
        rw [hS] at hl ho HF
        rw [hS]
        obtain ⟨L, X⟩ := S
        have HF2 := HF.out
        have hl2 : X.length ≤ 1048576 := hl
        have ho2 : OwnI w3 _ A3 c3 X := ho
        clear hl ho hS HF HL
        cases v3 : vldP L X
        · have HR := hide (HF2.trans (resP_no (p := (L, X)) v3))
          go_wp2_with fail
          refine (polyResult_no L A3 c3 X _ ho2.rd hl2 v3).mono ?_
          rintro e w9 ⟨rfl, hb9⟩
          have r0_9 := (r0_3).below hb9
          have p0_9 := (p0_3).below hb9
          obtain ⟨p0a_9, p0b_9⟩ := (p0_9).two
          have p2_9 := (p2_3).below hb9
          obtain ⟨p2a_9, p2b_9⟩ := (p2_9).two
          have p2f0_9 := (p2_9).frozen 0
          have p2f1_9 := (p2_9).frozen 1
          have z_9 : w3.heap.size ≤ w9.heap.size := hb9.size
          have B_9 := (B_3).trans (hb9.mono (by first | omega | (simp; omega) | simp))
          go_wp2_with fail
          refine bodyPost_ret (v := .tuple #[.agg #[.int .i64 0, .slice none 0 0], .int .i64 5]) (by simp [results, Try.results15, go_sem, p2a_9, p2b_9]) rfl ?_
          rw [HR.out]
          exact ⟨none, 0, rfl, OwnI.nil _ _, (B_9.setCell (by first | omega | (simp; omega) | simp) _).setCell (by first | omega | (simp; omega) | simp) _⟩
        · have HR := hide (HF2.trans (resP_yes (p := (L, X)) v3))
          go_wp2_with fail
          refine (polyResult_yes L A3 c3 X _ ho2.rd hl2 v3).mono ?_
          rintro e w9 ⟨rfl, hb9⟩
          have r0_9 := (r0_3).below hb9
          have p0_9 := (p0_3).below hb9
          obtain ⟨p0a_9, p0b_9⟩ := (p0_9).two
          have p2_9 := (p2_3).below hb9
          obtain ⟨p2a_9, p2b_9⟩ := (p2_9).two
          have p2f0_9 := (p2_9).frozen 0
          have p2f1_9 := (p2_9).frozen 1
          have ho_9 := (ho2).below hb9
          have z_9 : w3.heap.size ≤ w9.heap.size := hb9.size
          have B_9 := (B_3).trans (hb9.mono (by first | omega | (simp; omega) | simp))
          go_wp2_with fail
          refine bodyPost_ret (v := .tuple #[.agg #[.int .i64 L, .slice A3 X.length c3], .int .i64 0]) (by simp [results, Try.results15, go_sem, p2a_9, p2b_9]) rfl ?_
          rw [HR.out]
          exact ⟨A3, c3, rfl, ((ho_9.setLow (by first | omega | (simp; omega) | simp) _).setLow (by first | omega | (simp; omega) | simp) _).mono (by first | omega | (simp; omega) | simp), (B_9.setCell (by first | omega | (simp; omega) | simp) _).setCell (by first | omega | (simp; omega) | simp) _⟩
end Go.Proofs.Ytffiejlfnecanaa
