/-
  Contract of AddPolys of the program. Conditions: the numbers are far below the machine's.
-/
import Derived.Test.YtffiejlfnecanaaPolyTop
namespace Go.Proofs.Ytffiejlfnecanaa
open Go.RowKit
set_option linter.unusedVariables false

set_option maxHeartbeats 4000000 in
theorem implAddPolys_any (l0 : Int) (A0 : Option Addr) (c0 : Nat) (xs0 : List Int) (l1 : Int) (A1 : Option Addr) (c1 : Nat) (xs1 : List Int) (w : World) (h0 : RI w A0 xs0) (h1 : RI w A1 xs1) (n0 : xs0.length ≤ 1048576) (n1 : xs1.length ≤ 1048576)
    (k0 : xs0.length ≤ c0 ∧ c0 ≤ 9223372036854775807) (k1 : xs1.length ≤ c1 ∧ c1 ≤ 9223372036854775807) :
    Calls Try.prog 7 #[.agg #[.int .i64 l0, .slice A0 xs0.length c0], .agg #[.int .i64 l1, .slice A1 xs1.length c1]] w (RetPC w (addPR l0 xs0 l1 xs1).1 (addPR l0 xs0 l1 xs1).2.1 (addPR l0 xs0 l1 xs1).2.2) := by
  have p0 := ((Bx.new w 26 #[.int .i64 l0, .slice A0 xs0.length c0]).alloc (.cells #[.int .i64 l1, .slice A1 xs1.length c1] 26)).alloc (.cells #[.int .i64 0, .slice none 0 0] 26)
  have p1 := (Bx.new_ (w.alloc (.cells #[.int .i64 l0, .slice A0 xs0.length c0] 26)) (w.heap.size + 1) 26 #[.int .i64 l1, .slice A1 xs1.length c1] (by simp)).alloc (.cells #[.int .i64 0, .slice none 0 0] 26)
  have p2 := Bx.new_ ((w.alloc (.cells #[.int .i64 l0, .slice A0 xs0.length c0] 26)).alloc (.cells #[.int .i64 l1, .slice A1 xs1.length c1] 26)) (w.heap.size + 1 + 1) 26 #[.int .i64 0, .slice none 0 0] (by simp)
  have hB : Below w.heap.size w (((w.alloc (.cells #[.int .i64 l0, .slice A0 xs0.length c0] 26)).alloc (.cells #[.int .i64 l1, .slice A1 xs1.length c1] 26)).alloc (.cells #[.int .i64 0, .slice none 0 0] 26)) := (((Below.refl _ _).alloc (Nat.le_refl _) _).alloc (by simp) _).alloc (by simp; omega) _
  have r0 := ((h0.alloc (.cells #[.int .i64 l0, .slice A0 xs0.length c0] 26)).alloc (.cells #[.int .i64 l1, .slice A1 xs1.length c1] 26)).alloc (.cells #[.int .i64 0, .slice none 0 0] 26)
  have r1 := ((h1.alloc (.cells #[.int .i64 l0, .slice A0 xs0.length c0] 26)).alloc (.cells #[.int .i64 l1, .slice A1 xs1.length c1] 26)).alloc (.cells #[.int .i64 0, .slice none 0 0] 26)
  obtain ⟨pa0, pb0⟩ := p0.two
  obtain ⟨pa1, pb1⟩ := p1.two
  cases v0 : vldP l0 xs0
  · have HF := hide (show addPR l0 xs0 l1 xs1 = (0, [], 1) by unfold addPR; rw [if_neg (by rw [v0]; simp)])
    go_enter Try.func7, Try.ntmps7
    go_wp2_with fail
    refine (implValidPoly_any l0 A0 c0 xs0 _ r0 n0).mono ?_
    rintro e w1 ⟨rfl, hb1⟩
    have p0' := p0.below hb1
    have p1' := p1.below hb1
    have p2' := p2.below hb1
    obtain ⟨pc0, pd0⟩ := p0'.two
    obtain ⟨pc1, pd1⟩ := p1'.two
    obtain ⟨pc2, pd2⟩ := p2'.two
    have pf2 := p2'.frozen 0
    have pg2 := p2'.frozen 1
    have r0' := r0.below hb1
    have r1' := r1.below hb1
    have zz1 := hb1.size
    simp only [World.size_alloc] at zz1
    have hB1 := hB.trans (hb1.mono (by simp; omega))
    go_wp2_with fail
    refine bodyPost_ret (v := .tuple #[.agg #[.int .i64 0, .slice none 0 0], .int .i64 1]) (by simp [results, Try.results7, go_sem, pc2, pd2]) rfl ?_
    rw [HF.out]
    exact ⟨none, 0, rfl, OwnI.nil _ _, (hB1.setCell (by simp; omega) _).setCell (by simp; omega) _⟩
  · cases v1 : vldP l1 xs1
    · have HF := hide (show addPR l0 xs0 l1 xs1 = (0, [], 1) by unfold addPR; rw [if_neg (by rw [v1]; simp)])
      go_enter Try.func7, Try.ntmps7
      go_wp2_with fail
      refine (implValidPoly_any l0 A0 c0 xs0 _ r0 n0).mono ?_
      rintro e w1 ⟨rfl, hb1⟩
      have p0' := p0.below hb1
      have p1' := p1.below hb1
      have p2' := p2.below hb1
      obtain ⟨pc0, pd0⟩ := p0'.two
      obtain ⟨pc1, pd1⟩ := p1'.two
      obtain ⟨pc2, pd2⟩ := p2'.two
      have pf2 := p2'.frozen 0
      have pg2 := p2'.frozen 1
      have r0' := r0.below hb1
      have r1' := r1.below hb1
      have zz1 := hb1.size
      simp only [World.size_alloc] at zz1
      have hB1 := hB.trans (hb1.mono (by simp; omega))
      go_wp2_with fail
      refine (implValidPoly_any l1 A1 c1 xs1 _ r1' n1).mono ?_
      rintro e w2 ⟨rfl, hb2⟩
      have p0'' := p0'.below hb2
      have p1'' := p1'.below hb2
      have p2'' := p2'.below hb2
      obtain ⟨pe0, pj0⟩ := p0''.two
      obtain ⟨pe1, pj1⟩ := p1''.two
      obtain ⟨pe2, pj2⟩ := p2''.two
      have pf3 := p2''.frozen 0
      have pg3 := p2''.frozen 1
      have r0'' := r0'.below hb2
      have r1'' := r1'.below hb2
      have zz2 := hb2.size
      have hB2 := hB1.trans (hb2.mono (by omega))
      go_wp2_with fail
      refine bodyPost_ret (v := .tuple #[.agg #[.int .i64 0, .slice none 0 0], .int .i64 1]) (by simp [results, Try.results7, go_sem, pe2, pj2]) rfl ?_
      rw [HF.out]
      exact ⟨none, 0, rfl, OwnI.nil _ _, (hB2.setCell (by simp; omega) _).setCell (by simp; omega) _⟩
    · obtain ⟨ba, bb, bc, _⟩ := vldP_bounds v0
      obtain ⟨bd, be, bf, _⟩ := vldP_bounds v1
      have HF := hide (show addPR l0 xs0 l1 xs1 = resP (addP l0 xs0 l1 xs1) by unfold addPR; rw [if_pos ⟨v0, v1⟩])
      have HL := hide (addRaw_le l0 xs0 l1 xs1 ⟨ba, bb⟩ ⟨bd, be⟩ bc bf)
      obtain ⟨k00, k01⟩ := k0
      obtain ⟨k10, k11⟩ := k1
      go_enter Try.func7, Try.ntmps7
      go_wp2_with fail
      refine (implValidPoly_any l0 A0 c0 xs0 _ r0 n0).mono ?_
      rintro e w1 ⟨rfl, hb1⟩
      have p0' := p0.below hb1
      have p1' := p1.below hb1
      have p2' := p2.below hb1
      obtain ⟨pc0, pd0⟩ := p0'.two
      obtain ⟨pc1, pd1⟩ := p1'.two
      obtain ⟨pc2, pd2⟩ := p2'.two
      have pf2 := p2'.frozen 0
      have pg2 := p2'.frozen 1
      have r0' := r0.below hb1
      have r1' := r1.below hb1
      have zz1 := hb1.size
      simp only [World.size_alloc] at zz1
      have hB1 := hB.trans (hb1.mono (by simp; omega))
      go_wp2_with fail
      refine (implValidPoly_any l1 A1 c1 xs1 _ r1' n1).mono ?_
      rintro e w2 ⟨rfl, hb2⟩
      have p0'' := p0'.below hb2
      have p1'' := p1'.below hb2
      have p2'' := p2'.below hb2
      obtain ⟨pe0, pj0⟩ := p0''.two
      obtain ⟨pe1, pj1⟩ := p1''.two
      obtain ⟨pe2, pj2⟩ := p2''.two
      have pf3 := p2''.frozen 0
      have pg3 := p2''.frozen 1
      have r0'' := r0'.below hb2
      have r1'' := r1'.below hb2
      have zz2 := hb2.size
      have hB2 := hB1.trans (hb2.mono (by omega))
      go_wp2_with fail
      refine (addPolys_any l0 A0 c0 xs0 l1 A1 c1 xs1 _ r0'' r1'' (by omega) (by omega) (by omega) (by omega) n0 n1 k00 k10 k01 k11).mono ?_
      rintro e w3 ⟨A3, c3, rfl, ho, hb⟩
      have q3 := p2''.below hb
      have z3 := hb.size
      have hl := HL.out
      obtain ⟨S, hS⟩ : ∃ S, addP l0 xs0 l1 xs1 = S := ⟨_, rfl⟩
      rw [hS] at hl ho HF
      rw [hS]
      obtain ⟨L, X⟩ := S
      have HF2 := HF.out
      have hl2 : X.length ≤ 1048576 := hl
      have ho2 : OwnI w3 _ A3 c3 X := ho
      clear hl ho hS HF HL
      cases v3 : vldP L X
      · have HR := hide (HF2.trans (resP_no (p := (L, X)) v3))
        go_wp2_with fail
        refine (polyResult_no L A3 c3 X w3 ho2.rd hl2 v3).mono ?_
        rintro e w4 ⟨rfl, hb4⟩
        have q4 := q3.below hb4
        obtain ⟨qa, qb⟩ := q4.two
        have qf := q4.frozen 0
        have qg := q4.frozen 1
        have z4 := hb4.size
        go_wp2_with fail
        refine bodyPost_ret (v := .tuple #[.agg #[.int .i64 0, .slice none 0 0], .int .i64 5]) (by simp [results, Try.results7, go_sem, qa, qb]) rfl ?_
        rw [HR.out]
        exact ⟨none, 0, rfl, OwnI.nil _ _, (((hB2.trans (hb.mono (by omega))).trans (hb4.mono (by omega))).setCell (by simp; omega) _).setCell (by simp; omega) _⟩
      · have HR := hide (HF2.trans (resP_yes (p := (L, X)) v3))
        go_wp2_with fail
        refine (polyResult_yes L A3 c3 X w3 ho2.rd hl2 v3).mono ?_
        rintro e w4 ⟨rfl, hb4⟩
        have q4 := q3.below hb4
        have ho4 := ho2.below hb4
        obtain ⟨qa, qb⟩ := q4.two
        have qf := q4.frozen 0
        have qg := q4.frozen 1
        have z4 := hb4.size
        go_wp2_with fail
        refine bodyPost_ret (v := .tuple #[.agg #[.int .i64 L, .slice A3 X.length c3], .int .i64 0]) (by simp [results, Try.results7, go_sem, qa, qb]) rfl ?_
        rw [HR.out]
        exact ⟨A3, c3, rfl, ((ho4.setLow (by simp; omega) _).setLow (by simp; omega) _).mono (by omega), (((hB2.trans (hb.mono (by omega))).trans (hb4.mono (by omega))).setCell (by simp; omega) _).setCell (by simp; omega) _⟩
end Go.Proofs.Ytffiejlfnecanaa
