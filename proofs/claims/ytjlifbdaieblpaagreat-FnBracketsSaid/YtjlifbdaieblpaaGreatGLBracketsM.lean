/-
  Contracts of AddPolys, of the program and of the reference. Conditions: the numbers are far below the machine's.
  Contract of AddPolys of the program. Conditions: the numbers are far below the machine's.
  Contracts: MulPolys and ShiftPoly, of the reference and of the program. Conditions: none beyond the lengths.
  Contracts: a row turned round; InversePoly, of the reference and of the program. Conditions: none beyond the lengths.
  Plain law: what the laws FnPolys and FnShifted say of small polynomials. Conditions: coefficients and powers that are drawn.
  Plain law: the bracket is made of the brackets with a crossing that is smoothed in both ways; its coefficients stay small. Conditions: a panel's sides; at most eight crossings; at most twenty cells.
  The walk of the law FnBrackets. Conditions: none.
-/
import Derived.Test.YtjlifbdaieblpaaGreatPolyAddI
import Derived.Test.YtjlifbdaieblpaaGreatPolyShift
import Derived.Test.YtjlifbdaieblpaaGreatPolyAlgM
import Derived.Test.YtjlifbdaieblpaaGreatBrWay
import Derived.Test.YtjlifbdaieblpaaGreatTrMath3
import Derived.Test.YtjlifbdaieblpaaGreatBr5
import Derived.Test.YtjlifbdaieblpaaGreatPolyEq
import Derived.Test.YtjlifbdaieblpaaGreatOpenB
import Derived.Deep.DeepCutAuto
import Derived.Deep.CutRange
namespace Go.Proofs.YtjlifbdaieblpaaGreat
open Go.RowKit
set_option linter.unusedVariables false

theorem vldP_bounds {low : Int} {xs : List Int} (h : vldP low xs = true) : -1000 ≤ low ∧ low ≤ 1000 ∧ xs.length ≤ 400 ∧ ∀ x ∈ xs, -1000000000000 ≤ x ∧ x ≤ 1000000000000 := by
  unfold vldP at h
  split at h
  · rename_i h0
    have hx := len_nil h0
    subst hx
    have : low = 0 := by simpa using h
    subst this
    simp
  · simp only [Bool.and_eq_true, List.all_eq_true, decide_eq_true_eq] at h
    obtain ⟨h1, h2, h3, _⟩ := h
    have h3' := inB_true.1 h3
    exact ⟨h3'.1, h3'.2, h2, fun x hx => inB_true.1 (h1 x hx)⟩

/-- a result, if it is valid -/
def resP (p : Int × List Int) : Int × List Int × Int := if vldP p.1 p.2 = true then (p.1, p.2, 0) else (0, [], 5)
theorem resP_yes {p : Int × List Int} (h : vldP p.1 p.2 = true) : resP p = (p.1, p.2, 0) := if_pos h
theorem resP_no {p : Int × List Int} (h : vldP p.1 p.2 = false) : resP p = (0, [], 5) := by unfold resP; rw [if_neg (by rw [h]; simp)]

theorem addRaw_le (l0 : Int) (xs0 : List Int) (l1 : Int) (xs1 : List Int) (h0 : -1000 ≤ l0 ∧ l0 ≤ 1000) (h1 : -1000 ≤ l1 ∧ l1 ≤ 1000) (n0 : xs0.length ≤ 400) (n1 : xs1.length ≤ 400) : (addP l0 xs0 l1 xs1).2.length ≤ 1048576 := by
  unfold addP
  split
  · exact Nat.le_trans (trimS_le _ _) (by omega)
  · split
    · exact Nat.le_trans (trimS_le _ _) (by omega)
    · refine Nat.le_trans (trimS_le _ _) ?_
      unfold addRaw
      rw [addAt_length, addAt_length, List.length_replicate]
      have f1 := lowOf_or l0 l1
      have f2 := highOf_or (l0 + xs0.length) (l1 + xs1.length)
      omega

def addPR (l0 : Int) (xs0 : List Int) (l1 : Int) (xs1 : List Int) : Int × List Int × Int :=
  if vldP l0 xs0 = true ∧ vldP l1 xs1 = true then resP (addP l0 xs0 l1 xs1) else (0, [], 1)
theorem resP_le (p : Int × List Int) : (resP p).2.1.length ≤ p.2.length := by unfold resP; split <;> simp
theorem addPR_le (l0 : Int) (xs0 : List Int) (l1 : Int) (xs1 : List Int) : (addPR l0 xs0 l1 xs1).2.1.length ≤ 1048576 := by
  unfold addPR
  split
  · rename_i h
    have h0 := vldP_bounds h.1
    have h1 := vldP_bounds h.2
    exact Nat.le_trans (resP_le _) (addRaw_le _ _ _ _ ⟨h0.1, h0.2.1⟩ ⟨h1.1, h1.2.1⟩ h0.2.2.1 h1.2.2.1)
  · simp

set_option maxHeartbeats 4000000 in
theorem specAddPolys_any (l0 : Int) (A0 : Option Addr) (c0 : Nat) (xs0 : List Int) (l1 : Int) (A1 : Option Addr) (c1 : Nat) (xs1 : List Int) (w : World) (h0 : RI w A0 xs0) (h1 : RI w A1 xs1) (n0 : xs0.length ≤ 1048576) (n1 : xs1.length ≤ 1048576)
    (k0 : xs0.length ≤ c0 ∧ c0 ≤ 9223372036854775807) (k1 : xs1.length ≤ c1 ∧ c1 ≤ 9223372036854775807) :
    Calls Tryz.prog 19 #[.agg #[.int .i64 l0, .slice A0 xs0.length c0], .agg #[.int .i64 l1, .slice A1 xs1.length c1]] w (RetPC w (addPR l0 xs0 l1 xs1).1 (addPR l0 xs0 l1 xs1).2.1 (addPR l0 xs0 l1 xs1).2.2) := by
  have p0 := ((Bx.new w 29 #[.int .i64 l0, .slice A0 xs0.length c0]).alloc (.cells #[.int .i64 l1, .slice A1 xs1.length c1] 29)).alloc (.cells #[.int .i64 0, .slice none 0 0] 29)
  have p1 := (Bx.new_ (w.alloc (.cells #[.int .i64 l0, .slice A0 xs0.length c0] 29)) (w.heap.size + 1) 29 #[.int .i64 l1, .slice A1 xs1.length c1] (by simp)).alloc (.cells #[.int .i64 0, .slice none 0 0] 29)
  have p2 := Bx.new_ ((w.alloc (.cells #[.int .i64 l0, .slice A0 xs0.length c0] 29)).alloc (.cells #[.int .i64 l1, .slice A1 xs1.length c1] 29)) (w.heap.size + 1 + 1) 29 #[.int .i64 0, .slice none 0 0] (by simp)
  have hB : Below w.heap.size w (((w.alloc (.cells #[.int .i64 l0, .slice A0 xs0.length c0] 29)).alloc (.cells #[.int .i64 l1, .slice A1 xs1.length c1] 29)).alloc (.cells #[.int .i64 0, .slice none 0 0] 29)) := (((Below.refl _ _).alloc (Nat.le_refl _) _).alloc (by simp) _).alloc (by simp; omega) _
  have r0 := ((h0.alloc (.cells #[.int .i64 l0, .slice A0 xs0.length c0] 29)).alloc (.cells #[.int .i64 l1, .slice A1 xs1.length c1] 29)).alloc (.cells #[.int .i64 0, .slice none 0 0] 29)
  have r1 := ((h1.alloc (.cells #[.int .i64 l0, .slice A0 xs0.length c0] 29)).alloc (.cells #[.int .i64 l1, .slice A1 xs1.length c1] 29)).alloc (.cells #[.int .i64 0, .slice none 0 0] 29)
  obtain ⟨pa0, pb0⟩ := p0.two
  obtain ⟨pa1, pb1⟩ := p1.two
  cases v0 : vldP l0 xs0
  · have HF := hide (show addPR l0 xs0 l1 xs1 = (0, [], 1) by unfold addPR; rw [if_neg (by rw [v0]; simp)])
    go_enter Tryz.func19, Tryz.ntmps19
    go_wp2_with fail
    refine (l18Ok_any _ _ l0 A0 c0 xs0 _ pa0 pb0 r0 n0).mono ?_
    rintro e w' ⟨rfl, rfl⟩
    go_wp2_with fail
    refine bodyPost_ret (v := .tuple #[.agg #[.int .i64 0, .slice none 0 0], .int .i64 1]) (by simp [results, Tryz.results19, go_sem]) rfl ?_
    rw [HF.out]
    exact ⟨none, 0, rfl, OwnI.nil _ _, hB⟩
  · cases v1 : vldP l1 xs1
    · have HF := hide (show addPR l0 xs0 l1 xs1 = (0, [], 1) by unfold addPR; rw [if_neg (by rw [v1]; simp)])
      go_enter Tryz.func19, Tryz.ntmps19
      go_wp2_with fail
      refine (l18Ok_any _ _ l0 A0 c0 xs0 _ pa0 pb0 r0 n0).mono ?_
      rintro e w' ⟨rfl, rfl⟩
      go_wp2_with fail
      refine (l18Ok_any _ _ l1 A1 c1 xs1 _ pa1 pb1 r1 n1).mono ?_
      rintro e w' ⟨rfl, rfl⟩
      go_wp2_with fail
      refine bodyPost_ret (v := .tuple #[.agg #[.int .i64 0, .slice none 0 0], .int .i64 1]) (by simp [results, Tryz.results19, go_sem]) rfl ?_
      rw [HF.out]
      exact ⟨none, 0, rfl, OwnI.nil _ _, hB⟩
    · obtain ⟨ba, bb, bc, _⟩ := vldP_bounds v0
      obtain ⟨bd, be, bf, _⟩ := vldP_bounds v1
      have HF := hide (show addPR l0 xs0 l1 xs1 = resP (addP l0 xs0 l1 xs1) by unfold addPR; rw [if_pos ⟨v0, v1⟩])
      have HL := hide (addRaw_le l0 xs0 l1 xs1 ⟨ba, bb⟩ ⟨bd, be⟩ bc bf)
      obtain ⟨k00, k01⟩ := k0
      obtain ⟨k10, k11⟩ := k1
      go_enter Tryz.func19, Tryz.ntmps19
      go_wp2_with fail
      refine (l18Ok_any _ _ l0 A0 c0 xs0 _ pa0 pb0 r0 n0).mono ?_
      rintro e w' ⟨rfl, rfl⟩
      go_wp2_with fail
      refine (l18Ok_any _ _ l1 A1 c1 xs1 _ pa1 pb1 r1 n1).mono ?_
      rintro e w' ⟨rfl, rfl⟩
      go_wp2_with fail
      refine (l18Add_any l0 A0 c0 xs0 l1 A1 c1 xs1 _ r0 r1 (by omega) (by omega) (by omega) (by omega) n0 n1 k00 k10 k01 k11).mono ?_
      rintro e w3 ⟨A3, c3, rfl, ho, hb⟩
      have q3 := p2.below hb
      have z3 := hb.size
      simp only [World.size_alloc] at z3
      have hl := HL.out
      obtain ⟨S, hS⟩ : ∃ S, addP l0 xs0 l1 xs1 = S := ⟨_, rfl⟩
      rw [hS] at hl ho HF
      rw [hS]
      obtain ⟨L, X⟩ := S
      have HF2 := HF.out
      have hl2 : X.length ≤ 1048576 := hl
      have ho2 : OwnI w3 _ A3 c3 X := ho
      clear hl ho hS HF HL
      cases v3 : vldP L X
      · have HR := hide (HF2.trans (resP_no (p := (L, X)) v3))
        go_wp2_with fail
        refine (l18Checked_no L A3 c3 X w3 ho2.rd hl2 v3).mono ?_
        rintro e w4 ⟨rfl, hb4⟩
        have q4 := q3.below hb4
        obtain ⟨qa, qb⟩ := q4.two
        have qf := q4.frozen 0
        have qg := q4.frozen 1
        have z4 := hb4.size
        go_wp2_with fail
        refine bodyPost_ret (v := .tuple #[.agg #[.int .i64 0, .slice none 0 0], .int .i64 5]) (by simp [results, Tryz.results19, go_sem, qa, qb]) rfl ?_
        rw [HR.out]
        exact ⟨none, 0, rfl, OwnI.nil _ _, (((hB.trans (hb.mono (by simp; omega))).trans (hb4.mono (by omega))).setCell (by simp; omega) _).setCell (by simp; omega) _⟩
      · have HR := hide (HF2.trans (resP_yes (p := (L, X)) v3))
        go_wp2_with fail
        refine (l18Checked_yes L A3 c3 X w3 ho2.rd hl2 v3).mono ?_
        rintro e w4 ⟨rfl, hb4⟩
        have q4 := q3.below hb4
        have ho4 := ho2.below hb4
        obtain ⟨qa, qb⟩ := q4.two
        have qf := q4.frozen 0
        have qg := q4.frozen 1
        have z4 := hb4.size
        go_wp2_with fail
        refine bodyPost_ret (v := .tuple #[.agg #[.int .i64 L, .slice A3 X.length c3], .int .i64 0]) (by simp [results, Tryz.results19, go_sem, qa, qb]) rfl ?_
        rw [HR.out]
        exact ⟨A3, c3, rfl, ((ho4.setLow (by simp) _).setLow (by simp) _).mono (by simp; omega), (((hB.trans (hb.mono (by simp; omega))).trans (hb4.mono (by omega))).setCell (by simp; omega) _).setCell (by simp; omega) _⟩
end Go.Proofs.YtjlifbdaieblpaaGreat

namespace Go.Proofs.YtjlifbdaieblpaaGreat
open Go.RowKit
set_option linter.unusedVariables false

end Go.Proofs.YtjlifbdaieblpaaGreat

namespace Go.Proofs.YtjlifbdaieblpaaGreat
open Go.RowKit
set_option linter.unusedVariables false

def mulPR (l0 : Int) (xs0 : List Int) (l1 : Int) (xs1 : List Int) : Int × List Int × Int :=
  if vldP l0 xs0 = true ∧ vldP l1 xs1 = true then (if smallP xs0 = true ∧ smallP xs1 = true then resP (mulP l0 xs0 l1 xs1) else (0, [], 5)) else (0, [], 1)
def shiftPR (l : Int) (xs : List Int) (p t : Int) : Int × List Int × Int :=
  if vldP l xs = true then (if inB p (-1000) 1000 = true ∧ inB t (-1000) 1000 = true then resP (shiftP l xs p t) else (0, [], 2)) else (0, [], 1)
theorem mulP_le (l0 : Int) (xs0 : List Int) (l1 : Int) (xs1 : List Int) (n0 : xs0.length ≤ 400) (n1 : xs1.length ≤ 400) : (mulP l0 xs0 l1 xs1).2.length ≤ 1048576 := by
  unfold mulP
  split
  · simp
  · have := trimS_le (l0 + l1) (mulTo (xs0.length + xs1.length - 1) xs0 xs1 xs0.length)
    rw [mulTo_length] at this
    omega
theorem shiftP_le (l : Int) (xs : List Int) (p t : Int) (n0 : xs.length ≤ 400) : (shiftP l xs p t).2.length ≤ 1048576 := by
  unfold shiftP
  have := trimS_le (l + p) (rowW t xs)
  rw [rowW_length] at this
  omega
theorem mulPR_le (l0 : Int) (xs0 : List Int) (l1 : Int) (xs1 : List Int) : (mulPR l0 xs0 l1 xs1).2.1.length ≤ 1048576 := by
  unfold mulPR
  split
  · rename_i h
    obtain ⟨_, _, bc, _⟩ := vldP_bounds h.1
    obtain ⟨_, _, bf, _⟩ := vldP_bounds h.2
    split
    · exact Nat.le_trans (resP_le _) (mulP_le _ _ _ _ bc bf)
    · simp
  · simp
theorem shiftPR_le (l : Int) (xs : List Int) (p t : Int) : (shiftPR l xs p t).2.1.length ≤ 1048576 := by
  unfold shiftPR
  split
  · rename_i h
    obtain ⟨_, _, bc, _⟩ := vldP_bounds h
    split
    · exact Nat.le_trans (resP_le _) (shiftP_le _ _ _ _ bc)
    · simp
  · simp

set_option maxHeartbeats 4000000 in
theorem specShiftPoly_any (l0 : Int) (A0 : Option Addr) (c0 : Nat) (xs0 : List Int) (p t : Int) (w : World) (h0 : RI w A0 xs0) (n0 : xs0.length ≤ 1048576) :
    Calls Tryz.prog 10 #[.agg #[.int .i64 l0, .slice A0 xs0.length c0], .int .i64 p, .int .i64 t] w (RetPC w (shiftPR l0 xs0 p t).1 (shiftPR l0 xs0 p t).2.1 (shiftPR l0 xs0 p t).2.2) := by
  obtain ⟨p0a_x1, p0b_x1⟩ := ((Bx.new_ w (w.heap.size) 29 #[.int .i64 l0, .slice A0 xs0.length c0] (by simp)).alloc (.cells #[.int .i64 0, .slice none 0 0] 29)).two
  have hB := (((Below.refl w.heap.size w).alloc (by first | omega | (simp; omega) | simp) (.cells #[.int .i64 l0, .slice A0 xs0.length c0] 29)).alloc (by first | omega | (simp; omega) | simp) (.cells #[.int .i64 0, .slice none 0 0] 29))
  cases v0 : vldP l0 xs0
  · have HF := hide (show shiftPR l0 xs0 p t = (0, [], 1) by unfold shiftPR; rw [if_neg (by rw [v0]; simp)])
    go_enter Tryz.func10, Tryz.ntmps10
    go_wp2_with fail
    refine (l18Ok_any _ _ l0 A0 c0 xs0 _ p0a_x1 p0b_x1 (((h0).alloc (.cells #[.int .i64 l0, .slice A0 xs0.length c0] 29)).alloc (.cells #[.int .i64 0, .slice none 0 0] 29)) n0).mono ?_
    rintro e w' ⟨rfl, rfl⟩
    go_wp2_with fail
    refine bodyPost_ret (v := .tuple #[.agg #[.int .i64 0, .slice none 0 0], .int .i64 1]) (by simp [results, Tryz.results10, go_sem]) rfl ?_
    rw [HF.out]
    exact ⟨none, 0, rfl, OwnI.nil _ _, hB⟩
  · obtain ⟨ba, bb, bc, _⟩ := vldP_bounds v0
    cases i0 : inB p (-1000) 1000
    · have HF := hide (show shiftPR l0 xs0 p t = (0, [], 2) by unfold shiftPR; rw [if_pos v0, if_neg (by rw [i0]; simp)])
      go_enter Tryz.func10, Tryz.ntmps10
      go_wp2_with fail
      refine (l18Ok_any _ _ l0 A0 c0 xs0 _ p0a_x1 p0b_x1 (((h0).alloc (.cells #[.int .i64 l0, .slice A0 xs0.length c0] 29)).alloc (.cells #[.int .i64 0, .slice none 0 0] 29)) n0).mono ?_
      rintro e w' ⟨rfl, rfl⟩
      go_wp2_with (go_at_call 33; refine (l00In_any _ _ _ _).mono ?_; rintro e w' ⟨rfl, rfl⟩)
      refine bodyPost_ret (v := .tuple #[.agg #[.int .i64 0, .slice none 0 0], .int .i64 2]) (by simp [results, Tryz.results10, go_sem]) rfl ?_
      rw [HF.out]
      exact ⟨none, 0, rfl, OwnI.nil _ _, hB⟩
    · cases i1 : inB t (-1000) 1000
      · have HF := hide (show shiftPR l0 xs0 p t = (0, [], 2) by unfold shiftPR; rw [if_pos v0, if_neg (by rw [i1]; simp)])
        go_enter Tryz.func10, Tryz.ntmps10
        go_wp2_with fail
        refine (l18Ok_any _ _ l0 A0 c0 xs0 _ p0a_x1 p0b_x1 (((h0).alloc (.cells #[.int .i64 l0, .slice A0 xs0.length c0] 29)).alloc (.cells #[.int .i64 0, .slice none 0 0] 29)) n0).mono ?_
        rintro e w' ⟨rfl, rfl⟩
        go_wp2_with (go_at_call 33; refine (l00In_any _ _ _ _).mono ?_; rintro e w' ⟨rfl, rfl⟩)
        refine bodyPost_ret (v := .tuple #[.agg #[.int .i64 0, .slice none 0 0], .int .i64 2]) (by simp [results, Tryz.results10, go_sem]) rfl ?_
        rw [HF.out]
        exact ⟨none, 0, rfl, OwnI.nil _ _, hB⟩
      · have HF := hide (show shiftPR l0 xs0 p t = resP (shiftP l0 xs0 p t) by unfold shiftPR; rw [if_pos v0, if_pos ⟨i0, i1⟩])
        have HL := hide (shiftP_le l0 xs0 p t bc)
        obtain ⟨pa, pb⟩ := inB_true.1 i0
        go_enter Tryz.func10, Tryz.ntmps10
        go_wp2_with fail
        refine (l18Ok_any _ _ l0 A0 c0 xs0 _ p0a_x1 p0b_x1 (((h0).alloc (.cells #[.int .i64 l0, .slice A0 xs0.length c0] 29)).alloc (.cells #[.int .i64 0, .slice none 0 0] 29)) n0).mono ?_
        rintro e w' ⟨rfl, rfl⟩
        go_wp2_with (go_at_call 33; refine (l00In_any _ _ _ _).mono ?_; rintro e w' ⟨rfl, rfl⟩)
        refine (l18Shift_any l0 A0 c0 xs0 p t _ (((h0).alloc (.cells #[.int .i64 l0, .slice A0 xs0.length c0] 29)).alloc (.cells #[.int .i64 0, .slice none 0 0] 29)) (by omega) (by omega) (by omega) (by omega) n0).mono ?_
        rintro e w3 ⟨A3, c3, rfl, ho, hb3⟩
        have r0_3 := (((h0).alloc (.cells #[.int .i64 l0, .slice A0 xs0.length c0] 29)).alloc (.cells #[.int .i64 0, .slice none 0 0] 29)).below hb3
        have p0_3 := ((Bx.new_ w (w.heap.size) 29 #[.int .i64 l0, .slice A0 xs0.length c0] (by simp)).alloc (.cells #[.int .i64 0, .slice none 0 0] 29)).below hb3
        obtain ⟨p0a_3, p0b_3⟩ := (p0_3).two
        have p2_3 := (Bx.new_ (w.alloc (.cells #[.int .i64 l0, .slice A0 xs0.length c0] 29)) (w.heap.size + 1) 29 #[.int .i64 0, .slice none 0 0] (by simp)).below hb3
        obtain ⟨p2a_3, p2b_3⟩ := (p2_3).two
        have p2f0_3 := (p2_3).frozen 0
        have p2f1_3 := (p2_3).frozen 1
        have z_3 : ((w.alloc (.cells #[.int .i64 l0, .slice A0 xs0.length c0] 29)).alloc (.cells #[.int .i64 0, .slice none 0 0] 29)).heap.size ≤ w3.heap.size := hb3.size
        simp only [World.size_alloc] at z_3
        have B_3 := (((Below.refl w.heap.size w).alloc (by first | omega | (simp; omega) | simp) (.cells #[.int .i64 l0, .slice A0 xs0.length c0] 29)).alloc (by first | omega | (simp; omega) | simp) (.cells #[.int .i64 0, .slice none 0 0] 29)).trans (hb3.mono (by first | omega | (simp; omega) | simp))
        have hl := HL.out
        obtain ⟨S, hS⟩ : ∃ S, shiftP l0 xs0 p t = S := ⟨_, rfl⟩
        rw [hS] at hl ho HF
        rw [hS]
        obtain ⟨L, X⟩ := S
        have HF2 := HF.out
        have hl2 : X.length ≤ 1048576 := hl
        have ho2 : OwnI w3 _ A3 c3 X := ho
        clear hl ho hS HF HL
        cases v3 : vldP L X
        · have HR := hide (HF2.trans (resP_no (p := (L, X)) v3))
          go_wp2_with fail
          refine (l18Checked_no L A3 c3 X _ ho2.rd hl2 v3).mono ?_
          rintro e w9 ⟨rfl, hb9⟩
          have r0_9 := (r0_3).below hb9
          have p0_9 := (p0_3).below hb9
          obtain ⟨p0a_9, p0b_9⟩ := (p0_9).two
          have p2_9 := (p2_3).below hb9
          obtain ⟨p2a_9, p2b_9⟩ := (p2_9).two
          have p2f0_9 := (p2_9).frozen 0
          have p2f1_9 := (p2_9).frozen 1
          have z_9 : w3.heap.size ≤ w9.heap.size := hb9.size
          have B_9 := (B_3).trans (hb9.mono (by first | omega | (simp; omega) | simp))
          go_wp2_with fail
          refine bodyPost_ret (v := .tuple #[.agg #[.int .i64 0, .slice none 0 0], .int .i64 5]) (by simp [results, Tryz.results10, go_sem, p2a_9, p2b_9]) rfl ?_
          rw [HR.out]
          exact ⟨none, 0, rfl, OwnI.nil _ _, (B_9.setCell (by first | omega | (simp; omega) | simp) _).setCell (by first | omega | (simp; omega) | simp) _⟩
        · have HR := hide (HF2.trans (resP_yes (p := (L, X)) v3))
          go_wp2_with fail
          refine (l18Checked_yes L A3 c3 X _ ho2.rd hl2 v3).mono ?_
          rintro e w9 ⟨rfl, hb9⟩
          have r0_9 := (r0_3).below hb9
          have p0_9 := (p0_3).below hb9
          obtain ⟨p0a_9, p0b_9⟩ := (p0_9).two
          have p2_9 := (p2_3).below hb9
          obtain ⟨p2a_9, p2b_9⟩ := (p2_9).two
          have p2f0_9 := (p2_9).frozen 0
          have p2f1_9 := (p2_9).frozen 1
          have ho_9 := (ho2).below hb9
          have z_9 : w3.heap.size ≤ w9.heap.size := hb9.size
          have B_9 := (B_3).trans (hb9.mono (by first | omega | (simp; omega) | simp))
          go_wp2_with fail
          refine bodyPost_ret (v := .tuple #[.agg #[.int .i64 L, .slice A3 X.length c3], .int .i64 0]) (by simp [results, Tryz.results10, go_sem, p2a_9, p2b_9]) rfl ?_
          rw [HR.out]
          exact ⟨A3, c3, rfl, ((ho_9.setLow (by first | omega | (simp; omega) | simp) _).setLow (by first | omega | (simp; omega) | simp) _).mono (by first | omega | (simp; omega) | simp), (B_9.setCell (by first | omega | (simp; omega) | simp) _).setCell (by first | omega | (simp; omega) | simp) _⟩
end Go.Proofs.YtjlifbdaieblpaaGreat

namespace Go.Proofs.YtjlifbdaieblpaaGreat
open Go.RowKit
set_option linter.unusedVariables false

/-- the row with its first and its last k turned round -/
def revTo (xs : List Int) (k : Nat) : List Int := xs.mapIdx fun j y => if j < k ∨ xs.length - k ≤ j then xs.getD (xs.length - 1 - j) 0 else y
theorem revTo_length (xs : List Int) (k : Nat) : (revTo xs k).length = xs.length := by simp [revTo]
theorem revTo_zero (xs : List Int) : revTo xs 0 = xs := by
  apply List.ext_getElem?
  intro j
  by_cases h : j < xs.length
  · simp only [revTo, List.getElem?_mapIdx, List.getElem?_eq_getElem h, Option.map_some]
    rw [if_neg (by omega)]
  · simp [revTo, h]
theorem revTo_mid {xs : List Int} {k j : Nat} (h1 : k ≤ j) (h2 : j < xs.length - k) : (revTo xs k)[j]? = xs[j]? := by
  simp only [revTo, List.getElem?_mapIdx]
  rw [List.getElem?_eq_getElem (by omega), Option.map_some, if_neg (by omega)]
theorem revTo_next {xs : List Int} {k m : Nat} {x y : Int} (hk : k < m) (hm : m + k + 1 = xs.length) (hx : xs[k]? = some x) (hy : xs[m]? = some y) : ((revTo xs k).set k y).set m x = revTo xs (k + 1) := by
  apply List.ext_getElem?
  intro j
  by_cases hj : m = j
  · subst hj
    rw [List.getElem?_set_self (by rw [List.length_set, revTo_length]; omega)]
    simp only [revTo, List.getElem?_mapIdx, hy, Option.map_some]
    rw [if_pos (by omega), show xs.length - 1 - m = k by omega, getD_of hx]
  · rw [List.getElem?_set_ne hj]
    by_cases hj2 : k = j
    · subst hj2
      rw [List.getElem?_set_self (by rw [revTo_length]; omega)]
      simp only [revTo, List.getElem?_mapIdx, hx, Option.map_some]
      rw [if_pos (by omega), show xs.length - 1 - k = m by omega, getD_of hy]
    · rw [List.getElem?_set_ne hj2]
      simp only [revTo, List.getElem?_mapIdx]
      congr 1
      funext z
      by_cases h1 : j < k ∨ xs.length - k ≤ j
      · rw [if_pos h1, if_pos (by omega)]
      · rw [if_neg h1, if_neg (by omega)]
theorem revTo_end {xs : List Int} {k : Nat} (h : xs.length ≤ 2 * k + 1) : revTo xs k = xs.reverse := by
  apply List.ext_getElem?
  intro j
  by_cases hj : j < xs.length
  · rw [List.getElem?_reverse hj]
    simp only [revTo, List.getElem?_mapIdx, List.getElem?_eq_getElem hj, Option.map_some]
    rw [List.getElem?_eq_getElem (by omega)]
    congr 1
    by_cases h1 : j < k ∨ xs.length - k ≤ j
    · rw [if_pos h1, List.getD_eq_getElem?_getD, List.getElem?_eq_getElem (by omega)]; rfl
    · rw [if_neg h1]
      congr 1
      omega
  · simp [revTo, hj]

theorem grown_drew {a b : World} {r : Option Nat} (h : a.grownBy b r) : a.grownBy b.drew r := ⟨h.os, h.tape, h.output, h.size, h.block⟩

/-- the polynomial in which all powers have the opposite sign -/
def invPR (l : Int) (xs : List Int) : Int × List Int × Int := if vldP l xs = true then resP (trimS (1 - l - xs.length) xs.reverse) else (0, [], 1)
theorem dropZ_head {x : Int} {t : List Int} (h : x ≠ 0) : dropZ (x :: t) = x :: t := by simp [dropZ, h]
theorem trimS_ends {l : Int} {xs : List Int} (hn : 0 < xs.length) (h0 : xs.getD 0 0 ≠ 0) (h1 : xs.getD (xs.length - 1) 0 ≠ 0) : trimS l xs = (l, xs) := by
  have hd : dropZ xs = xs := by
    cases xs with
    | nil => rfl
    | cons x t => exact dropZ_head (by simpa using h0)
  have hr : rdropZ xs = xs := by
    have hx : xs[xs.length - 1]? = some xs[xs.length - 1] := List.getElem?_eq_getElem (by omega)
    have := rdropZ_stop (xs := xs) (m := xs.length) hn hx (by rw [getD_of hx] at h1; exact h1)
    rwa [List.take_of_length_le (Nat.le_refl _)] at this
  unfold trimS
  rw [hr, hd, if_neg (by intro e; rw [e] at hn; simp at hn)]
  simp
theorem vldP_ends {l : Int} {xs : List Int} (hn : 0 < xs.length) (h : vldP l xs = true) : xs.getD 0 0 ≠ 0 ∧ xs.getD (xs.length - 1) 0 ≠ 0 := by
  unfold vldP at h
  rw [if_neg (by omega)] at h
  simp only [Bool.and_eq_true, bne_iff_ne] at h
  exact h.2.2.2
theorem invPR_some {l : Int} {xs : List Int} (hn : 0 < xs.length) (h : vldP l xs = true) : invPR l xs = resP (-(l + (xs.length : Int) - 1), xs.reverse) := by
  unfold invPR
  rw [if_pos h]
  obtain ⟨h0, h1⟩ := vldP_ends hn h
  have hx0 : xs[0]? = some xs[0] := List.getElem?_eq_getElem hn
  have hx1 : xs[xs.length - 1]? = some xs[xs.length - 1] := List.getElem?_eq_getElem (by omega)
  have e0 : xs.reverse.getD 0 0 = xs.getD (xs.length - 1) 0 := by
    rw [getD_of (xs := xs.reverse) (k := 0) (x := xs[xs.length - 1]) (by rw [List.getElem?_reverse hn]; exact hx1), getD_of hx1]
  have e1 : xs.reverse.getD (xs.reverse.length - 1) 0 = xs.getD 0 0 := by
    rw [List.length_reverse, getD_of (xs := xs.reverse) (k := xs.length - 1) (x := xs[0]) (by rw [List.getElem?_reverse (by omega), show xs.length - 1 - (xs.length - 1) = 0 by omega]; exact hx0), getD_of hx0]
  rw [trimS_ends (by simpa using hn) (by rw [e0]; exact h1) (by rw [e1]; exact h0)]
  congr 2
  omega
theorem invPR_none {l : Int} {xs : List Int} (hn : xs.length = 0) (h : vldP l xs = true) : invPR l xs = (0, [], 0) := by
  unfold invPR
  rw [if_pos h]
  obtain rfl := List.eq_nil_of_length_eq_zero hn
  rfl
theorem invPR_le (l : Int) (xs : List Int) : (invPR l xs).2.1.length ≤ 1048576 := by
  unfold invPR
  split
  · rename_i h
    obtain ⟨_, _, bc, _⟩ := vldP_bounds h
    have := resP_le (trimS (1 - l - xs.length) xs.reverse)
    have h2 := trimS_le (1 - l - xs.length) xs.reverse
    rw [List.length_reverse] at h2
    omega
  · simp

end Go.Proofs.YtjlifbdaieblpaaGreat

namespace Go.Proofs.YtjlifbdaieblpaaGreat
open Go.RowKit
set_option linter.unusedVariables false

/-- coefficients of no more than B -/
def CB (B : Nat) (q : Int × List Int) : Prop := ∀ n, (cf q.1 q.2 n).natAbs ≤ B
theorem small_eq {a b : Int} (h : a % 18446744073709551616 = b % 18446744073709551616) (ha : wrap64 a = a) (hb : b.natAbs ≤ 4611686018427387904) : a = b := by unfold wrap64 at ha; omega
theorem cb_addP {B1 B2 : Nat} {p q : Int × List Int} (h1 : CB B1 p) (h2 : CB B2 q) (i1 : InW p.2) (i2 : InW q.2) (hb : B1 + B2 ≤ 4611686018427387904) : CB (B1 + B2) (addP p.1 p.2 q.1 q.2) := fun n => by
  have k1 := h1 n
  have k2 := h2 n
  rw [small_eq (cf_addP p.1 p.2 q.1 q.2 n) (inW_cf (inW_addP i1 i2)) (by omega)]
  omega
theorem sm_abs {f : Nat → Int} {B : Nat} : ∀ {k : Nat}, (∀ i, i < k → (f i).natAbs ≤ B) → (sm k f).natAbs ≤ k * B
  | 0, _ => by simp [sm]
  | k + 1, h => by
    have h1 := sm_abs (k := k) fun i hi => h i (by omega)
    have h2 := h k (by omega)
    rw [Nat.add_mul, Nat.one_mul]
    unfold sm
    omega
theorem cb_mulP {B1 B2 k : Nat} {p q : Int × List Int} (h1 : CB B1 p) (h2 : CB B2 q) (hk : p.2.length ≤ k) (hb : k * (B1 * B2) ≤ 4611686018427387904) : CB (k * (B1 * B2)) (mulP p.1 p.2 q.1 q.2) := fun n => by
  have h : (pq p.1 p.2.length (cf p.1 p.2) (cf q.1 q.2) n).natAbs ≤ p.2.length * (B1 * B2) := sm_abs fun i _ => by
    show (cf p.1 p.2 _ * cf q.1 q.2 _).natAbs ≤ _
    rw [Int.natAbs_mul]
    exact Nat.mul_le_mul (h1 _) (h2 _)
  have h3 : p.2.length * (B1 * B2) ≤ k * (B1 * B2) := Nat.mul_le_mul_right _ hk
  rw [small_eq (cf_mulP p.1 p.2 q.1 q.2 n) (inW_cf inW_mulP) (by omega)]
  omega
theorem CB.mem {B : Nat} {q : Int × List Int} (h : CB B q) : ∀ x ∈ q.2, x.natAbs ≤ B := by
  intro x hx
  obtain ⟨i, hi, rfl⟩ := List.getElem_of_mem hx
  have := h (q.1 + (i : Int))
  rw [cf_at, List.getD_eq_getElem?_getD, List.getElem?_eq_getElem hi] at this
  exact this
theorem cb_of {B : Nat} {q : Int × List Int} (h : ∀ x ∈ q.2, x.natAbs ≤ B) : CB B q := fun n => cf_mem (P := fun x => x.natAbs ≤ B) (by simp) h n
theorem CB.inW {B : Nat} {q : Int × List Int} (h : CB B q) (hb : B ≤ 4611686018427387904) : InW q.2 := fun x hx => by
  have := h.mem x hx
  unfold wrap64
  omega
theorem vld_ok {q : Int × List Int} (hc : Cn q) (hk : BK 200 q) (hb : CB 1000000000000 q) : vldP q.1 q.2 = true := by
  unfold BK at hk
  exact cn_vld hc (by omega) (by omega) (by omega) fun n => by have := hb n; omega
theorem small_ok {q : Int × List Int} (hb : CB 1000000 q) : smallP q.2 = true :=
  List.all_eq_true.2 fun x hx => inB_true.2 (by have := hb.mem x hx; omega)
theorem CB.mono {B B' : Nat} {q : Int × List Int} (h : CB B q) (hb : B ≤ B') : CB B' q := fun n => Nat.le_trans (h n) hb
theorem BK.mono_ {K K' : Int} {q : Int × List Int} (h : BK K q) (hk : K ≤ K') : BK K' q := ⟨by have := h.1; omega, by have := h.2.1; omega, by have := h.2.2; omega⟩

theorem trimS_lo (l : Int) (xs : List Int) : (trimS l xs).1 = 0 ∨ l ≤ (trimS l xs).1 := by
  unfold trimS
  split
  · exact .inl rfl
  · exact .inr (by dsimp only; omega)
/-- a polynomial that is drawn -/
structure Dw (q : Int × List Int) : Prop where
  cn : Cn q
  lo : -8 ≤ q.1
  bk : BK 9 q
  cb : CB 4 q
  len : q.2.length ≤ 5
theorem dw_trim {l : Int} {xs : List Int} (h1 : -4 ≤ l) (h2 : l ≤ 4) (hn : xs.length ≤ 5) (h : ∀ x ∈ xs, -4 ≤ x ∧ x ≤ 4) : Dw (trimS l xs) :=
  ⟨cn_trim _ _, by have := trimS_lo l xs; omega, trimS_bk (by omega) (by omega) (by omega), cb_of fun x hx => by
    rw [trimS_snd] at hx
    have := h x (rdropZ_mem (dropZ_mem hx))
    omega, Nat.le_trans (trimS_le _ _) hn⟩
theorem Dw.vld {q : Int × List Int} (h : Dw q) : vldP q.1 q.2 = true := vld_ok h.cn (h.bk.mono_ (by omega)) (h.cb.mono (by omega))
theorem Dw.small {q : Int × List Int} (h : Dw q) : smallP q.2 = true := small_ok (h.cb.mono (by omega))
theorem Dw.inW {q : Int × List Int} (h : Dw q) : InW q.2 := h.cb.inW (by omega)

theorem addPR_ok {p q : Int × List Int} (h1 : vldP p.1 p.2 = true) (h2 : vldP q.1 q.2 = true) (h3 : vldP (addP p.1 p.2 q.1 q.2).1 (addP p.1 p.2 q.1 q.2).2 = true) : addPR p.1 p.2 q.1 q.2 = ((addP p.1 p.2 q.1 q.2).1, (addP p.1 p.2 q.1 q.2).2, 0) := by
  unfold addPR
  rw [if_pos ⟨h1, h2⟩, resP_yes h3]
theorem mulPR_ok {p q : Int × List Int} (h1 : vldP p.1 p.2 = true) (h2 : vldP q.1 q.2 = true) (s1 : smallP p.2 = true) (s2 : smallP q.2 = true) (h3 : vldP (mulP p.1 p.2 q.1 q.2).1 (mulP p.1 p.2 q.1 q.2).2 = true) : mulPR p.1 p.2 q.1 q.2 = ((mulP p.1 p.2 q.1 q.2).1, (mulP p.1 p.2 q.1 q.2).2, 0) := by
  unfold mulPR
  rw [if_pos ⟨h1, h2⟩, if_pos ⟨s1, s2⟩, resP_yes h3]
/-- what the law FnPolys asks, of drawn polynomials -/
theorem polys_law {a b c : Int × List Int} (ha : Dw a) (hb : Dw b) (hc : Dw c) : ∃ x u v p q : Int × List Int,
    addPR a.1 a.2 b.1 b.2 = (x.1, x.2, 0) ∧ addPR b.1 b.2 a.1 a.2 = (x.1, x.2, 0) ∧ mulPR a.1 a.2 b.1 b.2 = (u.1, u.2, 0) ∧ mulPR b.1 b.2 a.1 a.2 = (u.1, u.2, 0) ∧ vldP x.1 x.2 = true ∧ vldP u.1 u.2 = true ∧
    mulPR x.1 x.2 c.1 c.2 = (v.1, v.2, 0) ∧ mulPR a.1 a.2 c.1 c.2 = (p.1, p.2, 0) ∧ mulPR b.1 b.2 c.1 c.2 = (q.1, q.2, 0) ∧ addPR p.1 p.2 q.1 q.2 = (v.1, v.2, 0) ∧
    sumP u.1 u.2 = (wrap64 (sumW a.2 * sumW b.2), 0) ∧ x.2.length ≤ 400 ∧ u.2.length ≤ 400 ∧ v.2.length ≤ 400 ∧ p.2.length ≤ 400 ∧ q.2.length ≤ 400 := by
  have hx : vldP (addP a.1 a.2 b.1 b.2).1 (addP a.1 a.2 b.1 b.2).2 = true := vld_ok (cn_addP _ _ _ _) ((addP_bk (K := 9) ha.bk hb.bk).mono_ (by omega)) ((cb_addP ha.cb hb.cb ha.inW hb.inW (by omega)).mono (by omega))
  have cx : CB (4 + 4) (addP a.1 a.2 b.1 b.2) := cb_addP ha.cb hb.cb ha.inW hb.inW (by omega)
  have kx : BK 9 (addP a.1 a.2 b.1 b.2) := addP_bk ha.bk hb.bk
  have lx : (addP a.1 a.2 b.1 b.2).2.length ≤ 18 := by unfold BK at kx; omega
  have hm : ∀ {p q : Int × List Int}, Dw p → Dw q → vldP (mulP p.1 p.2 q.1 q.2).1 (mulP p.1 p.2 q.1 q.2).2 = true := fun hp hq =>
    vld_ok (cn_mulP _ _ _ _) ((mulP_bk hp.bk hq.bk).mono_ (by omega)) ((cb_mulP hp.cb hq.cb hp.len (by omega)).mono (by omega))
  have hv : vldP (mulP (addP a.1 a.2 b.1 b.2).1 (addP a.1 a.2 b.1 b.2).2 c.1 c.2).1 (mulP (addP a.1 a.2 b.1 b.2).1 (addP a.1 a.2 b.1 b.2).2 c.1 c.2).2 = true :=
    vld_ok (cn_mulP _ _ _ _) ((mulP_bk kx hc.bk).mono_ (by omega)) ((cb_mulP cx hc.cb lx (by omega)).mono (by omega))
  have hd := mulP_addP a.1 a.2 b.1 b.2 c.1 c.2
  refine ⟨addP a.1 a.2 b.1 b.2, mulP a.1 a.2 b.1 b.2, mulP (addP a.1 a.2 b.1 b.2).1 (addP a.1 a.2 b.1 b.2).2 c.1 c.2, mulP a.1 a.2 c.1 c.2, mulP b.1 b.2 c.1 c.2, addPR_ok ha.vld hb.vld hx, ?_, mulPR_ok ha.vld hb.vld ha.small hb.small (hm ha hb), ?_, hx, hm ha hb,
    mulPR_ok hx hc.vld (small_ok (cx.mono (by omega))) hc.small hv, mulPR_ok ha.vld hc.vld ha.small hc.small (hm ha hc), mulPR_ok hb.vld hc.vld hb.small hc.small (hm hb hc), ?_, ?_,
    (vldP_bounds hx).2.2.1, (vldP_bounds (hm ha hb)).2.2.1, (vldP_bounds hv).2.2.1, (vldP_bounds (hm ha hc)).2.2.1, (vldP_bounds (hm hb hc)).2.2.1⟩
  · have e := addP_comm a.1 a.2 b.1 b.2 ha.inW hb.inW
    rw [e] at hx ⊢
    exact addPR_ok hb.vld ha.vld hx
  · have e := mulP_comm a.1 a.2 b.1 b.2
    rw [e]
    exact mulPR_ok hb.vld ha.vld hb.small ha.small (hm hb ha)
  · rw [hd] at hv ⊢
    exact addPR_ok (hm ha hc) (hm hb hc) hv
  · unfold sumP
    rw [if_pos (hm ha hb), sumW_mulP]

/-- powers turned round -/
def rvP (q : Int × List Int) : Int × List Int := trimS (1 - q.1 - q.2.length) q.2.reverse
theorem cf_rv (q : Int × List Int) (n : Int) : cf (rvP q).1 (rvP q).2 n = cf q.1 q.2 (-n) := by
  unfold rvP
  rw [cf_trim]
  obtain ⟨l, xs⟩ := q
  dsimp only
  by_cases h1 : n < 1 - l - xs.length
  · rw [cf_low h1, cf_high (by omega)]
  · by_cases h2 : -n < l
    · rw [cf_low h2, cf_high (by rw [List.length_reverse]; omega)]
    · obtain ⟨j, rfl⟩ : ∃ j : Nat, n = 1 - l - xs.length + j := ⟨(n - (1 - l - xs.length)).toNat, by omega⟩
      have hj : j < xs.length := by omega
      rw [cf_at, show -(1 - l - (xs.length : Int) + (j : Int)) = l + ((xs.length - 1 - j : Nat) : Int) by omega, cf_at]
      rw [List.getD_eq_getElem?_getD, List.getD_eq_getElem?_getD, List.getElem?_reverse hj]
theorem cn_rv (q : Int × List Int) : Cn (rvP q) := cn_trim _ _
theorem rv_rv {q : Int × List Int} (h : Cn q) : rvP (rvP q) = q := cn_eq (cn_rv _) h fun n => by rw [cf_rv, cf_rv, Int.neg_neg]
theorem inW_rv {q : Int × List Int} (h : InW q.2) : InW (rvP q).2 := trimS_inW fun x hx => h x (List.mem_reverse.1 hx)
theorem dw_rv {q : Int × List Int} (h : Dw q) : Dw (rvP q) :=
  ⟨cn_rv _, by
    have h3 := trimS_lo (1 - q.1 - q.2.length) q.2.reverse
    have := h.bk
    unfold BK at this
    unfold rvP
    omega, by
    have h3 := h.lo
    have := h.bk
    unfold BK at this
    by_cases hz : q.2 = []
    · unfold rvP
      rw [hz, show ([] : List Int).reverse = [] from rfl, trimS_nil]
      unfold BK
      simp
    · have hp := List.length_pos_iff.2 hz
      have hl := h.len
      have := h.cn.2 hp
      refine trimS_bk (by omega) (by omega) (by rw [List.length_reverse]; omega), fun n => by rw [cf_rv]; exact h.cb _, Nat.le_trans (trimS_le _ _) (by rw [List.length_reverse]; exact h.len)⟩
theorem invPR_rv {q : Int × List Int} (h : vldP q.1 q.2 = true) (h2 : vldP (rvP q).1 (rvP q).2 = true) : invPR q.1 q.2 = ((rvP q).1, (rvP q).2, 0) := by
  unfold invPR
  rw [if_pos h]
  exact resP_yes h2
/-- turned round, a product is the product of what is turned round -/
theorem rv_mul (p q : Int × List Int) : mulP (rvP p).1 (rvP p).2 (rvP q).1 (rvP q).2 = rvP (mulP p.1 p.2 q.1 q.2) :=
  cn_eq (cn_mulP _ _ _ _) (cn_rv _) fun n => mod_eq (by
    rw [cf_mulP, cf_rv, cf_mulP]
    congr 1
    obtain ⟨r, hr⟩ : ∃ r, r = rvP p := ⟨_, rfl⟩
    have hc : ∀ m, cf r.1 r.2 m = cf p.1 p.2 (-m) := fun m => by rw [hr, cf_rv]
    rw [← hr]
    obtain ⟨L, hL⟩ : ∃ L : Int, L = min r.1 (1 - p.1 - p.2.length) := ⟨_, rfl⟩
    obtain ⟨K, hK⟩ : ∃ K : Nat, K = (max (r.1 + r.2.length) (1 - p.1) - L).toNat := ⟨_, rfl⟩
    rw [pq_same (L' := L) (K' := K) (off_cf r.1 r.2) (Int.le_refl _) (Int.le_refl _) (by omega) (by omega),
      pq_same (L' := 1 - L - K) (K' := K) (off_cf p.1 p.2) (Int.le_refl _) (Int.le_refl _) (by omega) (by omega)]
    unfold pq ws
    rw [sm_rev]
    refine sm_congr fun i hi => ?_
    show cf r.1 r.2 (L + ((K - 1 - i : Nat) : Int)) * cf (rvP q).1 (rvP q).2 (n - (L + ((K - 1 - i : Nat) : Int))) = cf p.1 p.2 (1 - L - K + i) * cf q.1 q.2 (-n - (1 - L - K + i))
    rw [hc, cf_rv]
    congr 2 <;> omega) (inW_cf inW_mulP) (inW_cf (inW_rv inW_mulP))
theorem shiftPR_ok {q : Int × List Int} {p t : Int} (h1 : vldP q.1 q.2 = true) (hp : -1000 ≤ p ∧ p ≤ 1000) (ht : -1000 ≤ t ∧ t ≤ 1000) (h3 : vldP (shiftP q.1 q.2 p t).1 (shiftP q.1 q.2 p t).2 = true) : shiftPR q.1 q.2 p t = ((shiftP q.1 q.2 p t).1, (shiftP q.1 q.2 p t).2, 0) := by
  unfold shiftPR
  rw [if_pos h1, if_pos ⟨inB_true.2 hp, inB_true.2 ht⟩, resP_yes h3]
theorem shift_none (l : Int) (xs : List Int) (p : Int) : shiftP l xs p 0 = (0, []) := by
  rw [← mulP_one]
  refine cn_eq (cn_mulP _ _ _ _) ⟨fun _ => rfl, fun h => by simp at h⟩ fun n => mod_eq ?_ (inW_cf inW_mulP) (by rw [cf_nil]; exact wrap_zero)
  rw [cf_mulP, cf_nil]
  have : pq l xs.length (cf l xs) (cf p [0]) n = 0 := sm_zero fun i _ => by
    show _ * cf p [0] _ = 0
    rw [cf_zero, cf_nil, Int.mul_zero]
  rw [this]
/-- the term that is shifted by -/
def termP (p t : Int) : Int × List Int := if t = 0 then (0, []) else (p, [t])
theorem mul_term (q : Int × List Int) (p t : Int) : mulP q.1 q.2 (termP p t).1 (termP p t).2 = shiftP q.1 q.2 p t := by
  unfold termP
  split
  · rename_i h
    rw [h, shift_none]
    unfold mulP
    rw [if_pos (.inr rfl)]
  · exact mulP_one _ _ _ _
/-- what the law FnShifted asks, of drawn polynomials -/
theorem shifted_law {a b : Int × List Int} (ha : Dw a) (hb : Dw b) {p t : Int} (hp : -10 ≤ p ∧ p ≤ 10) (ht : -4 ≤ t ∧ t ≤ 4) : ∃ x u v q r : Int × List Int,
    shiftPR a.1 a.2 p t = (x.1, x.2, 0) ∧ mulPR a.1 a.2 (termP p t).1 (termP p t).2 = (x.1, x.2, 0) ∧ invPR a.1 a.2 = (u.1, u.2, 0) ∧ vldP u.1 u.2 = true ∧ invPR u.1 u.2 = (a.1, a.2, 0) ∧ invPR b.1 b.2 = (v.1, v.2, 0) ∧
    mulPR u.1 u.2 v.1 v.2 = (r.1, r.2, 0) ∧ mulPR a.1 a.2 b.1 b.2 = (q.1, q.2, 0) ∧ invPR q.1 q.2 = (r.1, r.2, 0) ∧ x.2.length ≤ 400 ∧ u.2.length ≤ 400 ∧ v.2.length ≤ 400 ∧ q.2.length ≤ 400 ∧ r.2.length ≤ 400 := by
  have hm : ∀ {p q : Int × List Int}, Dw p → Dw q → vldP (mulP p.1 p.2 q.1 q.2).1 (mulP p.1 p.2 q.1 q.2).2 = true := fun hp hq =>
    vld_ok (cn_mulP _ _ _ _) ((mulP_bk hp.bk hq.bk).mono_ (by omega)) ((cb_mulP hp.cb hq.cb hp.len (by omega)).mono (by omega))
  have ct : CB 4 (termP p t) := cb_of fun x hx => by
    unfold termP at hx
    split at hx
    · simp at hx
    · rw [List.mem_singleton] at hx
      omega
  have kt : BK 11 (termP p t) := by
    unfold termP BK
    split
    · simp
    · simp only [List.length_cons, List.length_nil]
      omega
  have nt : Cn (termP p t) := by
    unfold termP
    split
    · exact ⟨fun _ => rfl, fun h => by simp at h⟩
    · rename_i h
      exact ⟨fun h => by simp at h, fun _ => ⟨h, h⟩⟩
  have hs : vldP (mulP a.1 a.2 (termP p t).1 (termP p t).2).1 (mulP a.1 a.2 (termP p t).1 (termP p t).2).2 = true :=
    vld_ok (cn_mulP _ _ _ _) ((mulP_bk ha.bk kt).mono_ (by omega)) ((cb_mulP ha.cb ct ha.len (by omega)).mono (by omega))
  have hmt := mulPR_ok (p := a) (q := termP p t) ha.vld (vld_ok nt (kt.mono_ (by omega)) (ct.mono (by omega))) ha.small (small_ok (ct.mono (by omega))) hs
  rw [mul_term] at hs hmt
  have hu := dw_rv ha
  have hv := dw_rv hb
  have hrr := hm hu hv
  have e := rv_mul a b
  have er := rv_rv ha.cn
  refine ⟨shiftP a.1 a.2 p t, rvP a, rvP b, mulP a.1 a.2 b.1 b.2, mulP (rvP a).1 (rvP a).2 (rvP b).1 (rvP b).2, shiftPR_ok ha.vld (by omega) (by omega) hs, hmt, invPR_rv ha.vld hu.vld, hu.vld, ?_, invPR_rv hb.vld hv.vld,
    mulPR_ok hu.vld hv.vld hu.small hv.small hrr, mulPR_ok ha.vld hb.vld ha.small hb.small (hm ha hb), ?_,
    (vldP_bounds hs).2.2.1, (vldP_bounds hu.vld).2.2.1, (vldP_bounds hv.vld).2.2.1, (vldP_bounds (hm ha hb)).2.2.1, (vldP_bounds hrr).2.2.1⟩
  · have := invPR_rv (q := rvP a) hu.vld (by rw [er]; exact ha.vld)
    rw [er] at this
    exact this
  · rw [e] at hrr ⊢
    exact invPR_rv (hm ha hb) hrr
end Go.Proofs.YtjlifbdaieblpaaGreat

namespace Go.Proofs.YtjlifbdaieblpaaGreat
open Go.RowKit
set_option linter.unusedVariables false

theorem sm_bits {P : Nat} (hP : 0 < P) (f : Nat → Int) : ∀ m : Nat, sm (m * (2 * P)) f = sm (m * P) (fun s => f (s / P * (2 * P) + (0 + s % P)) + f (s / P * (2 * P) + (P + s % P)))
  | 0 => by simp [sm]
  | m + 1 => by
    have hn : (m + 1) * (2 * P) = m * (2 * P) + (P + P) := by rw [Nat.add_mul, Nat.one_mul]; omega
    rw [hn, sm_append, sm_bits hP f m, show (m + 1) * P = m * P + P by rw [Nat.add_mul, Nat.one_mul], sm_append _ (m * P) P, sm_append _ P P, ← sm_add]
    congr 1
    apply sm_congr
    intro i hi
    have e1 : (m * P + i) / P = m := by rw [Nat.add_comm, Nat.add_mul_div_right _ _ hP, Nat.div_eq_of_lt hi, Nat.zero_add]
    have e2 : (m * P + i) % P = i := by rw [Nat.add_comm, Nat.add_mul_mod_self_right, Nat.mod_eq_of_lt hi]
    show f (m * (2 * P) + i) + f (m * (2 * P) + (P + i)) = f ((m * P + i) / P * (2 * P) + (0 + (m * P + i) % P)) + f ((m * P + i) / P * (2 * P) + (P + (m * P + i) % P))
    rw [e1, e2, Nat.zero_add]
/-- the way s with the bit b put in at j -/
def insB (j : Nat) (b : Bool) (s : Nat) : Nat := s / 2 ^ j * (2 * 2 ^ j) + ((if b then 2 ^ j else 0) + s % 2 ^ j)
theorem ins_form (j : Nat) (b : Bool) (s : Nat) : ∃ h l, l < 2 ^ j ∧ s = l + 2 ^ j * h ∧ insB j b s = l + 2 ^ j * (2 * h + (if b then 1 else 0)) := by
  refine ⟨s / 2 ^ j, s % 2 ^ j, Nat.mod_lt _ (Nat.two_pow_pos j), (Nat.mod_add_div _ _).symm, ?_⟩
  unfold insB
  have e : 2 ^ j * (2 * (s / 2 ^ j) + (if b then 1 else 0)) = s / 2 ^ j * (2 * 2 ^ j) + (if b then 2 ^ j else 0) := by
    rw [Nat.mul_add]
    congr 1
    · rw [Nat.mul_comm (s / 2 ^ j) (2 * 2 ^ j), Nat.mul_comm 2 (2 ^ j), Nat.mul_assoc]
    · cases b <;> simp
  rw [e]
  omega
theorem ins_low {i j : Nat} (b : Bool) (s : Nat) (h : i < j) : insB j b s / 2 ^ i % 2 = s / 2 ^ i % 2 := by
  obtain ⟨q, l, hl, e1, e2⟩ := ins_form j b s
  rw [e2, e1]
  obtain ⟨d, hd⟩ : ∃ d, 2 ^ j = 2 ^ i * (2 * d) := ⟨2 ^ (j - i - 1), by rw [← Nat.pow_succ', ← Nat.pow_add]; congr 1; omega⟩
  have key : ∀ t, (l + 2 ^ j * t) / 2 ^ i % 2 = l / 2 ^ i % 2 := fun t => by
    rw [hd, Nat.mul_assoc, Nat.add_mul_div_left _ _ (Nat.two_pow_pos i), Nat.mul_assoc]
    omega
  rw [key, key]
theorem ins_at (j : Nat) (b : Bool) (s : Nat) : insB j b s / 2 ^ j % 2 = if b then 1 else 0 := by
  obtain ⟨q, l, hl, e1, e2⟩ := ins_form j b s
  rw [e2, Nat.add_mul_div_left _ _ (Nat.two_pow_pos j), Nat.div_eq_of_lt hl]
  cases b <;> simp <;> omega
theorem ins_high {i j : Nat} (b : Bool) (s : Nat) (h : j ≤ i) : insB j b s / 2 ^ (i + 1) = s / 2 ^ i := by
  obtain ⟨q, l, hl, e1, e2⟩ := ins_form j b s
  rw [e2, e1]
  have h1 : 2 ^ (i + 1) = 2 ^ j * (2 * 2 ^ (i - j)) := by rw [← Nat.pow_succ', ← Nat.pow_add]; congr 1; omega
  have h2 : 2 ^ i = 2 ^ j * 2 ^ (i - j) := by rw [← Nat.pow_add]; congr 1; omega
  rw [h1, h2, ← Nat.div_div_eq_div_mul, ← Nat.div_div_eq_div_mul, ← Nat.div_div_eq_div_mul, Nat.add_mul_div_left _ _ (Nat.two_pow_pos j), Nat.add_mul_div_left _ _ (Nat.two_pow_pos j), Nat.div_eq_of_lt hl]
  congr 1
  cases b <;> simp <;> omega
theorem pow_low {j : Nat} (b : Bool) (s : Nat) : ∀ i, i ≤ j → powTo (insB j b s) i = powTo s i
  | 0, _ => rfl
  | i + 1, h => by
    unfold powTo
    rw [pow_low b s i (by omega), ins_low b s (by omega)]
theorem pow_high {j : Nat} (b : Bool) (s : Nat) : ∀ d, powTo (insB j b s) (j + d + 1) = powTo s (j + d) + (if b then 1 else -1)
  | 0 => by
    show powTo (insB j b s) j + (if insB j b s / 2 ^ j % 2 = 1 then 1 else -1) = _
    rw [pow_low b s j (Nat.le_refl _), ins_at]
    cases b <;> rfl
  | d + 1 => by
    show powTo (insB j b s) (j + d + 1) + (if insB j b s / 2 ^ (j + d + 1) % 2 = 1 then 1 else -1) = (powTo s (j + d) + (if s / 2 ^ (j + d) % 2 = 1 then 1 else -1)) + _
    rw [pow_high b s d, ins_high b s (show j ≤ j + d by omega)]
    omega

/- places of crossings -/
theorem zTo_set_low {xs : List Int} {p : Nat} {v : Int} : ∀ {m : Nat}, m ≤ p → zTo (xs.set p v) m = zTo xs m
  | 0, _ => rfl
  | m + 1, h => by
    rw [zTo, zTo, zTo_set_low (by omega), List.getD_eq_getElem?_getD, List.getD_eq_getElem?_getD, List.getElem?_set_ne (by omega)]
theorem zTo_cut {xs : List Int} {p : Nat} {v : Int} (hp : p < xs.length) (h0 : xs.getD p 0 = 0) (hv : v ≠ 0) : ∀ d, ∃ R, zTo xs (p + 1 + d) = zTo xs p ++ (p : Int) :: R ∧ zTo (xs.set p v) (p + 1 + d) = zTo xs p ++ R
  | 0 => by
    refine ⟨[], ?_, ?_⟩
    · show zTo xs (p + 1) = _
      rw [zTo, if_pos h0]
    · show zTo (xs.set p v) (p + 1) = _
      rw [zTo, zTo_set_low (Nat.le_refl _), List.getD_eq_getElem?_getD, List.getElem?_set_self hp, if_neg (by simpa using hv)]
  | d + 1 => by
    obtain ⟨R, h1, h2⟩ := zTo_cut hp h0 hv d
    refine ⟨R ++ (if xs.getD (p + 1 + d) 0 = 0 then [((p + 1 + d : Nat) : Int)] else []), ?_, ?_⟩
    · show zTo xs (p + 1 + d + 1) = _
      rw [zTo, h1]
      simp
    · show zTo (xs.set p v) (p + 1 + d + 1) = _
      rw [zTo, h2, List.getD_eq_getElem?_getD, List.getD_eq_getElem?_getD, List.getElem?_set_ne (by omega)]
      simp
theorem psN_spec {xs : List Int} {i : Nat} (h : i < crN xs) : psN xs i < xs.length ∧ xs.getD (psN xs i) 0 = 0 ∧ (zTo xs (psN xs i)).length = i := by
  obtain ⟨p, h1, h2, h3⟩ := zTo_find h
  have h4 := zTo_at h2 h1
  rw [h3] at h4
  have e : psN xs i = p := by
    unfold psN
    rw [List.getD_eq_getElem?_getD, h4]
    simp
  rw [e]
  exact ⟨h1, h2, h3⟩
theorem psN_inj {xs : List Int} {i k : Nat} (hi : i < crN xs) (hk : k < crN xs) (h : psN xs i = psN xs k) : i = k := by
  have h1 := (psN_spec hi).2.2
  have h2 := (psN_spec hk).2.2
  rw [h] at h1
  omega
theorem kdB_ne (x : Int) (b : Bool) : kdB x b ≠ 0 := by unfold kdB; split <;> omega
theorem kdB_rng (x : Int) (b : Bool) : kdB x b = 1 ∨ kdB x b = 2 := by unfold kdB; split <;> omega
theorem cross_less {xs : List Int} {j : Nat} {v : Int} (hj : j < crN xs) (hv : v ≠ 0) : crN (xs.set (psN xs j) v) + 1 = crN xs ∧ ∀ i, i + 1 < crN xs → psN (xs.set (psN xs j) v) i = psN xs (if i < j then i else i + 1) := by
  obtain ⟨h1, h2, h3⟩ := psN_spec hj
  obtain ⟨R, e1, e2⟩ := zTo_cut h1 h2 hv (xs.length - (psN xs j + 1))
  have hn : psN xs j + 1 + (xs.length - (psN xs j + 1)) = xs.length := by omega
  rw [hn] at e1 e2
  refine ⟨?_, fun i hi => ?_⟩
  · unfold crN
    rw [List.length_set, e1, e2]
    simp
    omega
  · show ((zTo (xs.set (psN xs j) v) (xs.set (psN xs j) v).length).getD i 0).toNat = ((zTo xs xs.length).getD _ 0).toNat
    rw [List.length_set, e1, e2]
    congr 1
    rw [List.getD_eq_getElem?_getD, List.getD_eq_getElem?_getD]
    congr 1
    by_cases hij : i < j
    · rw [if_pos hij, List.getElem?_append_left (by omega), List.getElem?_append_left (by omega)]
    · rw [if_neg hij, List.getElem?_append_right (by omega), List.getElem?_append_right (by omega), show i + 1 - (zTo xs (psN xs j)).length = i - (zTo xs (psN xs j)).length + 1 by omega]
      rfl
theorem updTo_on {p : Nat → Nat} {g : Nat → Int} {ys : List Int} : ∀ {n : Nat}, (∀ a b, a < n → b < n → p a = p b → a = b) → ∀ {i : Nat}, i < n → p i < ys.length → (updTo p g n ys)[p i]? = some (g i)
  | 0, _, i, hi, _ => absurd hi (Nat.not_lt_zero i)
  | n + 1, hinj, i, hi, hp => by
    unfold updTo
    by_cases e : i = n
    · subst e
      rw [List.getElem?_set_self (by rw [updTo_len]; exact hp)]
    · rw [List.getElem?_set_ne (fun h => e (hinj i n hi (by omega) h.symm))]
      exact updTo_on (fun a b ha hb => hinj a b (by omega) (by omega)) (by omega) hp
theorem way_ins {wd : Int} {xs : List Int} {j : Nat} (hj : j < crN xs) (b : Bool) (s : Nat) :
    wayT wd xs (insB j b s) (crN xs) xs = wayT wd (xs.set (psN xs j) (kdB (pntX wd (psN xs j)) b)) s (crN xs - 1) (xs.set (psN xs j) (kdB (pntX wd (psN xs j)) b)) := by
  obtain ⟨c1, c2⟩ := cross_less hj (kdB_ne (pntX wd (psN xs j)) b)
  obtain ⟨ys, hys⟩ : ∃ ys, ys = xs.set (psN xs j) (kdB (pntX wd (psN xs j)) b) := ⟨_, rfl⟩
  rw [← hys] at c1 c2 ⊢
  have hyl : ys.length = xs.length := by rw [hys, List.length_set]
  have hinj : ∀ a b, a < crN xs → b < crN xs → psN xs a = psN xs b → a = b := fun a b ha hb => psN_inj ha hb
  have hinj2 : ∀ a b, a < crN xs - 1 → b < crN xs - 1 → psN ys a = psN ys b → a = b := fun a b ha hb => psN_inj (by omega) (by omega)
  apply List.ext_getElem?
  intro q
  by_cases hq : ∃ i, i < crN xs ∧ psN xs i = q
  · obtain ⟨i, hi, rfl⟩ := hq
    obtain ⟨i1, i2, i3⟩ := psN_spec hi
    unfold wayT
    rw [updTo_on hinj hi i1]
    by_cases hij : i = j
    · subst hij
      have hoff : ∀ k, k < crN xs - 1 → psN ys k ≠ psN xs i := fun k hk e => by
        rw [c2 k (by omega)] at e
        have h := hinj _ _ (by split <;> omega) hi e
        split at h <;> omega
      rw [updTo_off hoff, hys, List.getElem?_set_self i1]
      unfold kdN
      rw [ins_at]
      cases b <;> rfl
    · obtain ⟨m, hm, hme, hmb⟩ : ∃ m, m + 1 < crN xs ∧ (if m < j then m else m + 1) = i ∧ insB j b s / 2 ^ i % 2 = s / 2 ^ m % 2 := by
        by_cases h : i < j
        · exact ⟨i, by omega, by rw [if_pos h], ins_low b s h⟩
        · refine ⟨i - 1, by omega, by rw [if_neg (by omega)]; omega, ?_⟩
          have := ins_high b s (show j ≤ i - 1 by omega)
          rw [show i - 1 + 1 = i by omega] at this
          rw [this]
      have hpm : psN ys m = psN xs i := by rw [c2 m hm, hme]
      have := updTo_on (g := kdN wd ys s) (ys := ys) hinj2 (i := m) (by omega) (by rw [hpm, hyl]; exact i1)
      rw [hpm] at this
      rw [this]
      unfold kdN
      rw [hpm, hmb]
  · have o1 : ∀ k, k < crN xs → psN xs k ≠ q := fun k hk e => hq ⟨k, hk, e⟩
    have o2 : ∀ k, k < crN xs - 1 → psN ys k ≠ q := fun k hk e => by
      rw [c2 k (by omega)] at e
      exact o1 _ (by split <;> omega) e
    unfold wayT
    rw [updTo_off o1, updTo_off o2, hys, List.getElem?_set_ne (o1 j hj)]

/- coefficients -/
theorem cf_sh (p : Int) (q : Int × List Int) (n : Int) : cf (shL p q).1 (shL p q).2 n = cf q.1 q.2 (n - p) := by
  unfold shL
  split
  · rename_i h
    rw [h, cf_nil, cf_nil]
  · unfold cf
    simp only
    by_cases h : n < q.1 + p
    · rw [if_pos h, if_pos (by omega)]
    · rw [if_neg h, if_neg (by omega), show n - (q.1 + p) = n - p - q.1 by omega]
theorem cf_way (wd ht : Int) (xs : List Int) (s : Nat) (n : Int) : cf (wayP wd ht xs s).1 (wayP wd ht xs s).2 n = cf (loopP (wayM wd ht xs s)).1 (loopP (wayM wd ht xs s)).2 (n - powTo s (crN xs)) := by
  unfold wayP
  rw [summ_sh, cf_sh]
theorem cf_br (wd ht : Int) (xs : List Int) (n : Int) : ∀ S, cf (brTo wd ht xs S).1 (brTo wd ht xs S).2 n % 18446744073709551616 = sm S (fun s => cf (wayP wd ht xs s).1 (wayP wd ht xs s).2 n) % 18446744073709551616
  | 0 => by
    show cf 0 [] n % _ = _
    rw [cf_nil]
    rfl
  | S + 1 => by
    have h := cf_br wd ht xs n S
    show cf (addP _ _ _ _).1 (addP _ _ _ _).2 n % _ = (sm S _ + _) % _
    rw [cf_addP]
    exact mod_add h rfl
theorem skein_mod {wd ht : Int} {xs : List Int} {j : Nat} (hj : j < crN xs) (n : Int) :
    cf (brTo wd ht xs (2 ^ crN xs)).1 (brTo wd ht xs (2 ^ crN xs)).2 n % 18446744073709551616 =
      (cf (brTo wd ht (xs.set (psN xs j) (kdB (pntX wd (psN xs j)) true)) (2 ^ (crN xs - 1))).1 (brTo wd ht (xs.set (psN xs j) (kdB (pntX wd (psN xs j)) true)) (2 ^ (crN xs - 1))).2 (n - 1) +
       cf (brTo wd ht (xs.set (psN xs j) (kdB (pntX wd (psN xs j)) false)) (2 ^ (crN xs - 1))).1 (brTo wd ht (xs.set (psN xs j) (kdB (pntX wd (psN xs j)) false)) (2 ^ (crN xs - 1))).2 (n - -1)) % 18446744073709551616 := by
  have key : ∀ b s, cf (wayP wd ht xs (insB j b s)).1 (wayP wd ht xs (insB j b s)).2 n = cf (wayP wd ht (xs.set (psN xs j) (kdB (pntX wd (psN xs j)) b)) s).1 (wayP wd ht (xs.set (psN xs j) (kdB (pntX wd (psN xs j)) b)) s).2 (n - (if b then 1 else -1)) := fun b s => by
    have c1 := (cross_less hj (kdB_ne (pntX wd (psN xs j)) b)).1
    have hc : crN (xs.set (psN xs j) (kdB (pntX wd (psN xs j)) b)) = crN xs - 1 := by omega
    rw [cf_way, cf_way, hc]
    have hm : wayM wd ht xs (insB j b s) = wayM wd ht (xs.set (psN xs j) (kdB (pntX wd (psN xs j)) b)) s := by
      unfold wayM
      rw [way_ins hj, hc]
    have hp := pow_high (j := j) b s (crN xs - 1 - j)
    rw [show j + (crN xs - 1 - j) + 1 = crN xs by omega, show j + (crN xs - 1 - j) = crN xs - 1 by omega] at hp
    rw [hm, hp]
    congr 1
    omega
  have e2 : 2 ^ crN xs = 2 ^ (crN xs - 1 - j) * (2 * 2 ^ j) := by rw [← Nat.pow_succ', ← Nat.pow_add]; congr 1; omega
  have e1 : 2 ^ (crN xs - 1) = 2 ^ (crN xs - 1 - j) * 2 ^ j := by rw [← Nat.pow_add]; congr 1; omega
  rw [cf_br, e2, sm_bits (Nat.two_pow_pos j), ← e1, sm_add, Int.add_comm]
  refine mod_add ?_ ?_
  · rw [cf_br]
    congr 1
    exact sm_congr fun s _ => key true s
  · rw [cf_br]
    congr 1
    exact sm_congr fun s _ => key false s

/- bounds -/
theorem cf_loop (m : Nat) (n : Int) : cf (loopP (m + 1)).1 (loopP (m + 1)).2 n % 18446744073709551616 = (-(cf (loopP m).1 (loopP m).2 (n + 2)) - cf (loopP m).1 (loopP m).2 (n - 2)) % 18446744073709551616 := by
  show cf (mulP (loopP m).1 (loopP m).2 (-2) [-1, 0, 0, 0, -1]).1 (mulP (loopP m).1 (loopP m).2 (-2) [-1, 0, 0, 0, -1]).2 n % _ = _
  rw [mulP_comm, cf_mulP]
  congr 1
  show sm 5 (fun i => cf (-2) [-1, 0, 0, 0, -1] (-2 + i) * cf (loopP m).1 (loopP m).2 (n - (-2 + i))) = _
  have h : ∀ i : Nat, cf (-2) [-1, 0, 0, 0, -1] (-2 + (i : Int)) = ([-1, 0, 0, 0, -1] : List Int).getD i 0 := fun i => cf_at i
  simp only [sm, h]
  have e1 : n - (-2 + ((0 : Nat) : Int)) = n + 2 := by omega
  have e2 : n - (-2 + ((4 : Nat) : Int)) = n - 2 := by omega
  rw [e1, e2]
  simp
  omega
theorem cb_loop : ∀ m : Nat, m ≤ 60 → CB (2 ^ m) (loopP m)
  | 0, _ => cb_of (by simp [loopP])
  | m + 1, h => fun n => by
    have ih := cb_loop m (by omega)
    have k1 := ih (n + 2)
    have k2 := ih (n - 2)
    have hp : (2 : Nat) ^ (m + 1) = 2 * 2 ^ m := Nat.pow_succ'
    have hm : (2 : Nat) ^ m ≤ 2 ^ 60 := Nat.pow_le_pow_right (by omega) (by omega)
    rw [small_eq (cf_loop m n) (inW_cf (loop_norm (m + 1)).2) (by omega)]
    omega
theorem two_walk {wd ht : Int} {xs : List Int} {a : Wk} (h : OkW wd ht a) : 3 ≤ perW wd ht xs a ∨ perW wd ht xs a = 0 ∨ itW wd ht xs (perW wd ht xs a) a ≠ a := by
  obtain ⟨P, hP⟩ : ∃ P, P = perW wd ht xs a := ⟨_, rfl⟩
  rw [← hP]
  by_cases h3 : 3 ≤ P
  · exact .inl h3
  · by_cases h0 : P = 0
    · exact .inr (.inl h0)
    · refine .inr (.inr fun e => ?_)
      obtain ⟨h1, h2, h4, h5⟩ := h
      have f := flip_facts (xs := xs) h5
      obtain rfl | rfl : P = 1 ∨ P = 2 := by omega
      · have hx : a.x + a.dx = a.x := congrArg Wk.x e
        omega
      · have hx : a.x + a.dx + (if FlipX wd ht xs a.nx a.ny then -a.dx else a.dx) = a.x := congrArg Wk.x e
        have hy : a.y + a.dy + (if FlipY wd ht xs a.nx a.ny then -a.dy else a.dy) = a.y := congrArg Wk.y e
        refine f.2.2 ⟨?_, ?_⟩
        · refine Classical.byContradiction fun hn => ?_
          rw [if_neg hn] at hx
          omega
        · refine Classical.byContradiction fun hn => ?_
          rw [if_neg hn] at hy
          omega
theorem flat_big {α : Type} {k : Nat} : ∀ (L : List (List α)), (∀ c ∈ L, k ≤ c.length) → k * L.length ≤ L.flatten.length
  | [], _ => by simp
  | c :: L, h => by
    have h1 := flat_big L fun d hd => h d (List.mem_cons_of_mem _ hd)
    have h2 := h c List.mem_cons_self
    rw [List.flatten_cons, List.length_append, List.length_cons, Nat.mul_add]
    omega
theorem nodup_lt {l : List Nat} {N : Nat} (h : l.Nodup) (hb : ∀ x ∈ l, x < N) : l.length ≤ N := by
  refine Classical.byContradiction fun hn => ?_
  obtain ⟨i, j, hij, hj, e⟩ := pigeon N (fun i => l.getD i 0) (fun i hi => by
    show l.getD i 0 < N
    rw [List.getD_eq_getElem?_getD, List.getElem?_eq_getElem (show i < l.length by omega)]
    exact hb _ (List.getElem_mem _))
  have e : l.getD i 0 = l.getD j 0 := e
  rw [List.getD_eq_getElem?_getD, List.getD_eq_getElem?_getD, List.getElem?_eq_getElem (show i < l.length by omega), List.getElem?_eq_getElem (show j < l.length by omega)] at e
  exact (List.pairwise_iff_getElem.1 h) i j (by omega) (by omega) hij e
/-- each curve passes three segments at least -/
theorem cur_few {wd ht : Int} {xs : List Int} (hs : Sz wd ht) : 3 * (curL wd ht xs).length ≤ nSeg wd ht := by
  have hT := trInv_all (xs := xs) hs
  have hbig : ∀ c ∈ curL wd ht xs, 3 ≤ c.length := fun c hc => by
    obtain ⟨i, hi⟩ := List.mem_iff_getElem?.1 hc
    obtain ⟨k, hk, hck, _⟩ := hT.start i c hi
    have hw := (walkK_ok hs hk).1
    have hps := per_spec (xs := xs) hs hw
    rw [hck, orbW_len]
    rcases two_walk (xs := xs) hw with h | h | h
    · exact h
    · omega
    · exact absurd hps.2.1 h
  have hok : ∀ (i : Nat) (c : List Wk), (curL wd ht xs)[i]? = some c → ∀ a ∈ c, segN ht a < nSeg wd ht := fun i c hi a ha => by
    have h := hT.mem i c hi a ha
    have := (List.getElem?_eq_some_iff.1 h).1
    rw [hT.len] at this
    exact this
  have hnd : ((curL wd ht xs).flatten.map (segN ht)).Nodup := by
    rw [List.map_flatten]
    unfold List.Nodup
    rw [List.pairwise_flatten]
    refine ⟨fun d hd => ?_, ?_⟩
    · obtain ⟨c, hc, rfl⟩ := List.mem_map.1 hd
      obtain ⟨i, hi⟩ := List.mem_iff_getElem?.1 hc
      obtain ⟨k, hk, hck, _⟩ := hT.start i c hi
      have hw := (walkK_ok hs hk).1
      have hps := per_spec (xs := xs) hs hw
      have hl : c.length = perW wd ht xs (walkK ht k) := by rw [hck]; exact orbW_len _
      rw [List.pairwise_iff_getElem]
      intro m n hm hn hmn e
      rw [List.length_map] at hm hn
      have e1 : c[m]? = some (itW wd ht xs m (walkK ht k)) := by rw [hck]; exact orbW_at _ (by omega)
      have e2 : c[n]? = some (itW wd ht xs n (walkK ht k)) := by rw [hck]; exact orbW_at _ (by omega)
      rw [List.getElem?_eq_getElem hm] at e1
      rw [List.getElem?_eq_getElem hn] at e2
      injection e1 with e1
      injection e2 with e2
      rw [List.getElem_map, List.getElem_map, e1, e2] at e
      refine seg_distinct hs hw hps.2.2.2 hmn (by omega) ?_
      rw [← (segN_int hs (okW_it hw m)).1, ← (segN_int hs (okW_it hw n)).1, e]
    · rw [List.pairwise_iff_getElem]
      intro i j hi hj hij x hx y hy e
      rw [List.length_map] at hi hj
      rw [List.getElem_map] at hx hy
      obtain ⟨a, ha, rfl⟩ := List.mem_map.1 hx
      obtain ⟨b, hb, rfl⟩ := List.mem_map.1 hy
      have h1 := hT.mem i _ (List.getElem?_eq_getElem hi) a ha
      have h2 := hT.mem j _ (List.getElem?_eq_getElem hj) b hb
      rw [e, h2] at h1
      injection h1 with h1
      omega
  have h1 := flat_big _ hbig
  have h2 := nodup_lt hnd (N := nSeg wd ht) fun x hx => by
    obtain ⟨a, ha, rfl⟩ := List.mem_map.1 hx
    obtain ⟨c, hc, hac⟩ := List.mem_flatten.1 ha
    obtain ⟨i, hi⟩ := List.mem_iff_getElem?.1 hc
    exact hok i c hi a hac
  rw [List.length_map] at h2
  omega
theorem wayM_few {wd ht : Int} {xs : List Int} (hs : Sz wd ht) (h20 : wd * ht ≤ 20) (s : Nat) : wayM wd ht xs s ≤ 25 := by
  have h := cur_few (xs := wayT wd xs s (crN xs) xs) hs
  have h2 := (nSeg_int hs).1
  rw [Int.mul_assoc] at h2
  unfold wayM
  omega
theorem inW_br {wd ht : Int} {xs : List Int} : ∀ S, InW (brTo wd ht xs S).2
  | 0 => fun x hx => nomatch hx
  | S + 1 => inW_addP (inW_br S) (by
    unfold wayP
    rw [summ_sh]
    unfold shL
    split
    · intro x hx; cases hx
    · exact (loop_norm _).2)
theorem cn_br {wd ht : Int} {xs : List Int} : ∀ S, Cn (brTo wd ht xs S)
  | 0 => ⟨fun _ => rfl, fun h => by simp [brTo] at h⟩
  | S + 1 => cn_addP _ _ _ _
theorem cb_way {wd ht : Int} {xs : List Int} (hs : Sz wd ht) (h20 : wd * ht ≤ 20) (s : Nat) : CB 33554432 (wayP wd ht xs s) := fun n => by
  rw [cf_way]
  have h1 := wayM_few (xs := xs) hs h20 s
  have h2 := cb_loop (wayM wd ht xs s) (by omega) (n - powTo s (crN xs))
  have h3 : (2 : Nat) ^ wayM wd ht xs s ≤ 2 ^ 25 := Nat.pow_le_pow_right (by omega) h1
  have : (2 : Nat) ^ 25 = 33554432 := by decide
  omega
theorem inW_way {wd ht : Int} {xs : List Int} (s : Nat) : InW (wayP wd ht xs s).2 := by
  unfold wayP
  rw [summ_sh]
  unfold shL
  split
  · intro x hx; cases hx
  · exact (loop_norm _).2
theorem cb_br {wd ht : Int} {xs : List Int} (hs : Sz wd ht) (h20 : wd * ht ≤ 20) : ∀ S, S ≤ 256 → CB (S * 33554432) (brTo wd ht xs S)
  | 0, _ => fun n => by
    show (cf 0 [] n).natAbs ≤ _
    rw [cf_nil]
    simp
  | S + 1, h => by
    rw [Nat.add_mul, Nat.one_mul]
    exact cb_addP (cb_br hs h20 S (by omega)) (cb_way hs h20 S) (inW_br S) (inW_way S) (by omega)
theorem bk_br {wd ht : Int} {xs : List Int} (hs : Sz wd ht) (h20 : wd * ht ≤ 20) (h8 : crN xs ≤ 8) : ∀ S, BK 90 (brTo wd ht xs S)
  | 0 => by unfold BK brTo; simp
  | S + 1 => addP_bk (bk_br hs h20 h8 S) (by
    have h1 := powTo_b S (crN xs)
    have h2 := wayM_few (xs := xs) hs h20 S
    exact (summ_bk (P := 8) (by omega) _).mono (by omega))
theorem pow8 {n : Nat} (h : n ≤ 8) : 2 ^ n ≤ 256 := Nat.pow_le_pow_right (n := 2) (by omega) h
theorem br_vld {wd ht : Int} {xs : List Int} (hs : Sz wd ht) (h20 : wd * ht ≤ 20) (h8 : crN xs ≤ 8) {S : Nat} (hS : S ≤ 256) : vldP (brTo wd ht xs S).1 (brTo wd ht xs S).2 = true :=
  vld_ok (cn_br S) ((bk_br hs h20 h8 S).mono (by omega)) ((cb_br hs h20 S hS).mono (by omega))
/-- shifted by a power, with a sign -/
theorem cf_shift (q : Int × List Int) (p t n : Int) : cf (shiftP q.1 q.2 p t).1 (shiftP q.1 q.2 p t).2 n % 18446744073709551616 = (t * cf q.1 q.2 (n - p)) % 18446744073709551616 := by
  unfold shiftP
  rw [cf_trim]
  unfold cf
  by_cases h : n < q.1 + p
  · rw [if_pos h, if_pos (by omega), Int.mul_zero]
  · rw [if_neg h, if_neg (by omega), row_mod, show n - (q.1 + p) = n - p - q.1 by omega]
theorem inW_shift (q : Int × List Int) (p t : Int) : InW (shiftP q.1 q.2 p t).2 := trimS_inW fun x hx => by
  unfold rowW at hx
  obtain ⟨y, _, rfl⟩ := List.mem_map.1 hx
  exact wrap_idem _
theorem shift_vld {q : Int × List Int} {B : Nat} {p t : Int} (hk : BK 90 q) (hb : CB B q) (hB : B ≤ 1000000000000) (hp : -100 ≤ p ∧ p ≤ 100) (ht : t = 1 ∨ t = -1) : vldP (shiftP q.1 q.2 p t).1 (shiftP q.1 q.2 p t).2 = true ∧ CB B (shiftP q.1 q.2 p t) := by
  have hcb : CB B (shiftP q.1 q.2 p t) := fun n => by
    have h1 := hb (n - p)
    have h2 : (t * cf q.1 q.2 (n - p)).natAbs ≤ B := by rcases ht with rfl | rfl <;> omega
    rw [small_eq (cf_shift q p t n) (inW_cf (inW_shift q p t)) (by omega)]
    exact h2
  refine ⟨vld_ok (cn_trim _ _) ?_ (hcb.mono hB), hcb⟩
  obtain ⟨k1, k2, k3⟩ := hk
  refine trimS_bk (by omega) (by omega) ?_
  unfold rowW
  rw [List.length_map]
  omega
/-- The bracket is made of those with a crossing smoothed in both ways. -/
theorem skein {wd ht : Int} {xs : List Int} (hs : Sz wd ht) (h20 : wd * ht ≤ 20) (h8 : crN xs ≤ 8) {j : Nat} (hj : j < crN xs) :
    ∃ y z u v : Int × List Int, y = brTo wd ht (xs.set (psN xs j) (kdB (pntX wd (psN xs j)) true)) (2 ^ (crN xs - 1)) ∧ z = brTo wd ht (xs.set (psN xs j) (kdB (pntX wd (psN xs j)) false)) (2 ^ (crN xs - 1)) ∧
      shiftPR y.1 y.2 1 1 = (u.1, u.2, 0) ∧ shiftPR z.1 z.2 (-1) 1 = (v.1, v.2, 0) ∧ addPR u.1 u.2 v.1 v.2 = ((brTo wd ht xs (2 ^ crN xs)).1, (brTo wd ht xs (2 ^ crN xs)).2, 0) ∧ u.2.length ≤ 400 ∧ v.2.length ≤ 400 := by
  have c1 := (cross_less hj (kdB_ne (pntX wd (psN xs j)) true)).1
  have c2 := (cross_less hj (kdB_ne (pntX wd (psN xs j)) false)).1
  have p1 : 2 ^ (crN xs - 1) ≤ 128 := Nat.pow_le_pow_right (n := 2) (by omega) (show crN xs - 1 ≤ 7 by omega)
  have p2 := pow8 h8
  have hsk := fun n => skein_mod (wd := wd) (ht := ht) hj n
  obtain ⟨y, hy⟩ : ∃ y, y = brTo wd ht (xs.set (psN xs j) (kdB (pntX wd (psN xs j)) true)) (2 ^ (crN xs - 1)) := ⟨_, rfl⟩
  obtain ⟨z, hz⟩ : ∃ z, z = brTo wd ht (xs.set (psN xs j) (kdB (pntX wd (psN xs j)) false)) (2 ^ (crN xs - 1)) := ⟨_, rfl⟩
  rw [← hy, ← hz] at hsk
  have by1 : BK 90 y := by rw [hy]; exact bk_br hs h20 (by omega) _
  have bz1 : BK 90 z := by rw [hz]; exact bk_br hs h20 (by omega) _
  have by2 : CB 4294967296 y := by rw [hy]; exact (cb_br hs h20 _ (by omega)).mono (by omega)
  have bz2 : CB 4294967296 z := by rw [hz]; exact (cb_br hs h20 _ (by omega)).mono (by omega)
  have vy : vldP y.1 y.2 = true := by rw [hy]; exact br_vld hs h20 (by omega) (by omega)
  have vz : vldP z.1 z.2 = true := by rw [hz]; exact br_vld hs h20 (by omega) (by omega)
  obtain ⟨vu, cu⟩ := shift_vld (p := 1) (t := 1) by1 by2 (by omega) (by omega) (.inl rfl)
  obtain ⟨vv, cv⟩ := shift_vld (p := -1) (t := 1) bz1 bz2 (by omega) (by omega) (.inl rfl)
  have hsum : addP (shiftP y.1 y.2 1 1).1 (shiftP y.1 y.2 1 1).2 (shiftP z.1 z.2 (-1) 1).1 (shiftP z.1 z.2 (-1) 1).2 = brTo wd ht xs (2 ^ crN xs) :=
    cn_eq (cn_addP _ _ _ _) (cn_br _) fun n => mod_eq (by
      rw [cf_addP, hsk n]
      refine mod_add ?_ ?_
      · rw [cf_shift, Int.one_mul]
      · rw [cf_shift, Int.one_mul]) (inW_cf (inW_addP (inW_shift _ _ _) (inW_shift _ _ _))) (inW_cf (inW_br _))
  have hvs := br_vld (xs := xs) hs h20 h8 (S := 2 ^ crN xs) p2
  have hadd := addPR_ok vu vv (by rw [hsum]; exact hvs)
  rw [hsum] at hadd
  have hlen : ∀ q : Int × List Int, BK 90 q → ∀ p : Int, (shiftP q.1 q.2 p 1).2.length ≤ 400 := fun q hk p => by
    obtain ⟨k1, k2, k3⟩ := hk
    have h := trimS_le (q.1 + p) (rowW 1 q.2)
    have h2 : (rowW 1 q.2).length = q.2.length := by unfold rowW; rw [List.length_map]
    unfold shiftP
    omega
  exact ⟨y, z, shiftP y.1 y.2 1 1, shiftP z.1 z.2 (-1) 1, hy, hz, shiftPR_ok vy (by omega) (by omega) vu, shiftPR_ok vz (by omega) (by omega) vv, hadd, hlen y by1 1, hlen z bz1 (-1)⟩
/-- no crossing: the value of the curves -/
theorem br_plain {wd ht : Int} {xs : List Int} (h0 : crN xs = 0) : brTo wd ht xs (2 ^ crN xs) = loopP ((curL wd ht xs).length - 1) := by
  have hw : wayM wd ht xs 0 = (curL wd ht xs).length - 1 := by
    unfold wayM
    rw [h0]
    rfl
  obtain ⟨h1, h2⟩ := loop_norm ((curL wd ht xs).length - 1)
  have hp : wayP wd ht xs 0 = shL 0 (loopP ((curL wd ht xs).length - 1)) := by
    unfold wayP
    rw [summ_sh, hw, h0]
    rfl
  rw [h0]
  show addP 0 [] (wayP wd ht xs 0).1 (wayP wd ht xs 0).2 = _
  rw [hp]
  unfold addP
  rw [if_pos (show ([] : List Int).length = 0 from rfl)]
  unfold shL
  split
  · rename_i h
    rw [h] at h1
    exact h1
  · rw [Int.add_zero]
    exact h1
theorem sum_loop : ∀ m : Nat, m ≤ 30 → sumW (loopP m).2 = (-2) ^ m ∧ (((-2 : Int)) ^ m).natAbs ≤ 2 ^ m
  | 0, _ => ⟨by decide +kernel, by decide +kernel⟩
  | m + 1, h => by
    obtain ⟨h1, h2⟩ := sum_loop m (by omega)
    have hp : (2 : Nat) ^ m ≤ 2 ^ 30 := Nat.pow_le_pow_right (by omega) (by omega)
    have hq : (2 : Nat) ^ (m + 1) = 2 * 2 ^ m := Nat.pow_succ'
    have h3 : sumW (loopP (m + 1)).2 = wrap64 (sumW (loopP m).2 * sumW [-1, 0, 0, 0, -1]) := sumW_mulP (loopP m).1 (loopP m).2 (-2) [-1, 0, 0, 0, -1]
    have h4 : sumW [-1, 0, 0, 0, -1] = -2 := by decide +kernel
    rw [h4, h1] at h3
    rw [Int.pow_succ]
    refine ⟨?_, by omega⟩
    rw [h3]
    unfold wrap64
    omega
/-- The normal bracket is the bracket shifted. -/
theorem normal_law {wd ht : Int} {xs : List Int} (hs : Sz wd ht) (h20 : wd * ht ≤ 20) (h8 : crN xs ≤ 8) {v t : Int} (hv : -8 ≤ v ∧ v ≤ 8) (hsg : t = 1 ∨ t = -1) :
    shiftPR (brTo wd ht xs (2 ^ crN xs)).1 (brTo wd ht xs (2 ^ crN xs)).2 (-3 * v) t = ((shiftP (brTo wd ht xs (2 ^ crN xs)).1 (brTo wd ht xs (2 ^ crN xs)).2 (-3 * v) t).1, (shiftP (brTo wd ht xs (2 ^ crN xs)).1 (brTo wd ht xs (2 ^ crN xs)).2 (-3 * v) t).2, 0) := by
  have p2 := pow8 h8
  refine shiftPR_ok (br_vld hs h20 h8 p2) (by omega) (by rcases hsg with rfl | rfl <;> omega) ?_
  exact (shift_vld (bk_br hs h20 h8 _) (cb_br hs h20 _ p2) (by omega) (by omega) hsg).1
end Go.Proofs.YtjlifbdaieblpaaGreat

namespace Go.Proofs.YtjlifbdaieblpaaGreat
open Go.RowKit
set_option linter.unusedVariables false

set_option maxHeartbeats 2000000 in
theorem specValidPanel_any (wd ht : Int) (A : Option Addr) (c : Nat) (xs : List Int) (w : World) (hxs : RI w A xs) (hn : xs.length ≤ 1048576) :
    Calls Tryz.prog 17 #[.agg #[.int .i64 wd, .int .i64 ht, .slice A xs.length c]] w (RetV w (.bool (vldPan wd ht xs))) := by
  have hpa : PA (w.alloc (.cells #[.int .i64 wd, .int .i64 ht, .slice A xs.length c] 26)) w.heap.size wd ht A c xs := ⟨(Bx.new_ w (w.heap.size) 26 #[.int .i64 wd, .int .i64 ht, .slice A xs.length c] (by simp)), hxs.below ((Below.refl w.heap.size w).alloc (by first | omega | (simp; omega) | simp) (.cells #[.int .i64 wd, .int .i64 ht, .slice A xs.length c] 26))⟩
  have HOK := hide (RetQ.v (l02Ok_any w.heap.size wd ht A c xs (w.alloc (.cells #[.int .i64 wd, .int .i64 ht, .slice A xs.length c] 26)) hpa.c0 hpa.c1 hpa.c2 hpa.rd hn))
  have HB0 := hide ((Below.refl w.heap.size w).alloc (by first | omega | (simp; omega) | simp) (.cells #[.int .i64 wd, .int .i64 ht, .slice A xs.length c] 26))
  clear hpa
  go_enter Tryz.func17, Tryz.ntmps17
  go_wp2_with fail
  refine HOK.out.mono ?_
  rintro e w1 ⟨rfl, hb1⟩
  have B1 := HB0.out.trans (hb1.mono (by simp))
  go_wp2_with fail
  go_ret
  exact ⟨rfl, B1⟩
theorem vld_smooth {wd ht : Int} {xs : List Int} {n : Nat} {v : Int} (h : vldPan wd ht xs = true) (hv : v = 1 ∨ v = 2) : vldPan wd ht (xs.set n v) = true := by
  obtain ⟨h1, h2, h3, h4⟩ := vldPan_true h
  rw [vldPan_all h1 h2 (by rw [List.length_set]; exact h3)]
  refine List.all_eq_true.2 fun x hx => ?_
  rcases List.mem_or_eq_of_mem_set hx with hx | hx
  · exact List.all_eq_true.1 h4 x hx
  · rw [hx]
    exact inB_true.2 (by omega)
/-- what the law asks of a panel with a crossing -/
theorem cross_facts {wd ht : Int} {xs : List Int} (hbc : brC wd ht xs = 0) {XL : Int} {XC : List Int} (hX : brTo wd ht xs (2 ^ crN xs) = (XL, XC)) {k : Nat} (hk : k < crN xs) :
    ∃ (av bw : List Int) (yL : Int) (yC : List Int) (zL : Int) (zC : List Int) (uL : Int) (uC : List Int) (vL : Int) (vC : List Int), av.length = xs.length ∧ bw.length = xs.length ∧
      smR wd ht xs (k : Int) true = ((wd, ht, av), 0) ∧ smR wd ht xs (k : Int) false = ((wd, ht, bw), 0) ∧ vldPan wd ht av = true ∧ vldPan wd ht bw = true ∧
      brR wd ht av = ((yL, yC), 0) ∧ brR wd ht bw = ((zL, zC), 0) ∧ shiftPR yL yC 1 1 = (uL, uC, 0) ∧ shiftPR zL zC (-1) 1 = (vL, vC, 0) ∧ addPR uL uC vL vC = (XL, XC, 0) ∧
      yC.length ≤ 400 ∧ zC.length ≤ 400 ∧ uC.length ≤ 400 ∧ vC.length ≤ 400 := by
  obtain ⟨hv, h8, h20⟩ := brC_zero hbc
  obtain ⟨hs, hl⟩ := vld_sz hv
  obtain ⟨p1, p2⟩ := psN_at hk
  have hcc : crC wd ht xs (k : Int) = 0 := crC_ok hv (inB_true.2 (by omega))
  have c1 := (cross_less hk (kdB_ne (pntX wd (psN xs k)) true)).1
  have c2 := (cross_less hk (kdB_ne (pntX wd (psN xs k)) false)).1
  have va := vld_smooth (n := psN xs k) hv (kdB_rng (pntX wd (psN xs k)) true)
  have vb := vld_smooth (n := psN xs k) hv (kdB_rng (pntX wd (psN xs k)) false)
  have ba := brC_ok va (by omega) (by omega)
  have bb := brC_ok vb (by omega) (by omega)
  obtain ⟨y, z, u, v, hy, hz, hu, hv2, hadd, lu, lv⟩ := skein hs h20 h8 hk
  have ra := brR_ok ba
  have rb := brR_ok bb
  rw [show crN (xs.set (psN xs k) (kdB (pntX wd (psN xs k)) true)) = crN xs - 1 by omega, ← hy] at ra
  rw [show crN (xs.set (psN xs k) (kdB (pntX wd (psN xs k)) false)) = crN xs - 1 by omega, ← hz] at rb
  rw [hX] at hadd
  have ky : BK 90 y := by rw [hy]; exact bk_br hs h20 (by omega) _
  have kz : BK 90 z := by rw [hz]; exact bk_br hs h20 (by omega) _
  obtain ⟨ky1, ky2, ky3⟩ := ky
  obtain ⟨kz1, kz2, kz3⟩ := kz
  exact ⟨_, _, y.1, y.2, z.1, z.2, u.1, u.2, v.1, v.2, List.length_set, List.length_set, smR_ok hcc p2, smR_ok hcc p2, va, vb, ra, rb, hu, hv2, hadd, by omega, by omega, lu, lv⟩

set_option maxRecDepth 40000 in
set_option maxHeartbeats 16000000 in
theorem walk_LBrackets (w : World) (A0 : Option Addr) (c0 : Nat) (xs0 : List Int) (hx0 : ArgB w A0 c0 xs0) (A1 : Option Addr) (c1 : Nat) (xs1 : List Int) (hx1 : ArgB w A1 c1 xs1) :
    Calls Tryz.prog 3 #[.slice A0 xs0.length c0, .slice A1 xs1.length c1] w fun e w' => e = .returned (.bool true) ∧ Below w.heap.size w w' := by
  obtain ⟨hl, hm, hr, hb⟩ := hx0
  obtain ⟨hl1, hm1, hr1, hb1⟩ := hx1
  by_cases hlong : (decide (3000 < xs0.length) || decide (3000 < xs1.length)) = true
  · go_enter Tryz.func3, Tryz.ntmps3
    go_wp2_with fail
    refine (a2Long_any A0 A1 xs0.length xs1.length c0 c1 w).mono ?_
    rintro e w1 ⟨rfl, rfl⟩
    rw [hlong]
    go_wp2_with fail
    go_ret
    exact ⟨rfl, Below.refl _ _⟩
  · have hd : (decide (3000 < xs0.length) || decide (3000 < xs1.length)) = false := by simpa using hlong
    have hlen : xs0.length ≤ 3000 := by
      simp only [Bool.or_eq_false_iff, decide_eq_false_iff_not] at hd
      omega
    have HB1 := hide hb1
    clear hb1
    go_enter Tryz.func3, Tryz.ntmps3
    go_wp2_with fail
    refine (a2Long_any A0 A1 xs0.length xs1.length c0 c1 w).mono ?_
    rintro e w0 ⟨rfl, rfl⟩
    rw [hd]
    go_wp2_with fail
    refine (a2Bracket_any A0 c0 xs0 w hr hb (by omega)).mono ?_
    rintro e w1 ⟨wd, ht, xs, A, c, rfl, hbc, hxl, oy, hb1⟩
    have more_1 := (hr1).below hb1
    have z_1 : w.heap.size ≤ w1.heap.size := hb1.size
    have B_1 := (Below.refl w.heap.size w).trans (hb1.mono (by first | omega | (simp; omega) | simp))
    obtain ⟨hv, h8, h20⟩ := brC_zero hbc
    obtain ⟨hs, hls⟩ := vld_sz hv
    have hcap := oy.cap_
    obtain ⟨XL, XC, hX⟩ : ∃ XL XC, brTo wd ht xs (2 ^ crN xs) = (XL, XC) := ⟨_, _, rfl⟩
    obtain ⟨V, hV⟩ : ∃ V, V = sumW (sgL wd ht xs) := ⟨_, rfl⟩
    have hVb := writhe_b hs hls h8
    rw [← hV] at hVb
    obtain ⟨T, hT⟩ : ∃ T, T = nbT V := ⟨_, rfl⟩
    have hTb : T = 1 ∨ T = -1 := by rw [hT]; unfold nbT; split <;> simp
    obtain ⟨YL, YC, hY⟩ : ∃ YL YC, shiftP XL XC (-3 * V) T = (YL, YC) := ⟨_, _, rfl⟩
    have HIB : Hid (∀ (W : World), RI W A xs → Calls Tryz.prog 6 #[.agg #[.int .i64 wd, .int .i64 ht, .slice A xs.length c]] W (RetPC W XL XC 0)) := hide fun W h => by
      have := implBracketOf_any wd ht A c xs W h (by omega)
      rw [brR_ok hbc, hX] at this
      exact this
    have HNB : Hid (∀ (W : World), RI W A xs → Calls Tryz.prog 7 #[.agg #[.int .i64 wd, .int .i64 ht, .slice A xs.length c]] W (RetPC W YL YC 0)) := hide fun W h => by
      have := implNormalBracket_any wd ht A c xs W h hcap (by omega)
      rw [nbR_ok hbc, hX, ← hV, ← hT, hY] at this
      exact this
    have HWR : Hid (∀ (W : World), RI W A xs → Calls Tryz.prog 8 #[.agg #[.int .i64 wd, .int .i64 ht, .slice A xs.length c]] W (RetV W (.tuple #[.int .i64 V, .int .i64 0]))) := hide fun W h => by
      have := specWritheOf_any wd ht A c xs W h hcap (by omega)
      rw [writheR_ok hv, ← hV] at this
      exact this
    have hvX := br_vld (xs := xs) hs h20 h8 (pow8 h8)
    have hkX := bk_br (xs := xs) hs h20 h8 (2 ^ crN xs)
    have hnl := normal_law (xs := xs) hs h20 h8 hVb hTb
    rw [hX] at hvX hkX hnl
    dsimp only at hvX hnl
    rw [hY] at hnl
    have hXl : XC.length ≤ 400 := by
      obtain ⟨k1, k2, k3⟩ := hkX
      dsimp only at k1 k3
      omega
    have hYl : YC.length ≤ 400 := by
      have h1 := trimS_le (XL + -3 * V) (rowW T XC)
      have h2 : (rowW T XC).length = XC.length := by unfold rowW; rw [List.length_map]
      have h3 : YC = (shiftP XL XC (-3 * V) T).2 := by rw [hY]
      rw [h3]
      unfold shiftP
      omega
    have HVP : Hid (∀ (W : World) (B : Option Addr) (e : Nat), RI W B XC → Calls Tryz.prog 9 #[.agg #[.int .i64 XL, .slice B XC.length e]] W (RetV W (.bool true))) := hide fun W B e h => by
      have := specValidPoly_any XL B e XC W h (by omega)
      rw [hvX] at this
      exact this
    have HSH : Hid (∀ (W : World) (B : Option Addr) (e : Nat), RI W B XC → Calls Tryz.prog 10 #[.agg #[.int .i64 XL, .slice B XC.length e], .int .i64 (-3 * V), .int .i64 T] W (RetPC W YL YC 0)) := hide fun W B e h => by
      have := specShiftPoly_any XL B e XC (-3 * V) T W h (by omega)
      rw [hnl] at this
      exact this
    have HSP : Hid (∀ (W : World) (B B' : Option Addr) (e e' : Nat), RI W B YC → RI W B' YC → Calls Tryz.prog 11 #[.agg #[.int .i64 YL, .slice B YC.length e], .agg #[.int .i64 YL, .slice B' YC.length e']] W (RetV W (.bool true))) := hide fun W B B' e e' h h' => by
      have := specSamePoly_any YL YL B B' e e' YC YC W h h' (by omega) (by omega)
      rw [decide_eq_true (show YL = YL ∧ YC = YC from ⟨rfl, rfl⟩)] at this
      exact this
    have HSX : Hid (∀ (W : World) (B B' : Option Addr) (e e' : Nat), RI W B XC → RI W B' XC → Calls Tryz.prog 11 #[.agg #[.int .i64 XL, .slice B XC.length e], .agg #[.int .i64 XL, .slice B' XC.length e']] W (RetV W (.bool true))) := hide fun W B B' e e' h h' => by
      have := specSamePoly_any XL XL B B' e e' XC XC W h h' (by omega) (by omega)
      rw [decide_eq_true (show XL = XL ∧ XC = XC from ⟨rfl, rfl⟩)] at this
      exact this
    have HCR : Hid (∀ (W : World), RI W A xs → Calls Tryz.prog 12 #[.agg #[.int .i64 wd, .int .i64 ht, .slice A xs.length c]] W (RetIC W (zTo xs xs.length) 0)) := hide fun W h => specCrossingsOf_ok wd ht A c xs W h hv (by omega)
    have HCC : Hid (∀ (W : World), RI W A xs → Calls Tryz.prog 13 #[.agg #[.int .i64 wd, .int .i64 ht, .slice A xs.length c]] W (RetV W (.tuple #[.int .i64 ((curL wd ht xs).length : Int), .int .i64 0]))) := hide fun W h => specCountCurves_ok wd ht A c xs W h hv (by omega)
    have hfew := cur_few (xs := xs) hs
    have hnseg := (nSeg_int hs).1
    rw [Int.mul_assoc] at hnseg
    have hcu : (curL wd ht xs).length ≤ 26 := by omega
    have HPS : Hid (crN xs = 0 → ∀ (W : World) (B : Option Addr) (e : Nat), RI W B XC → Calls Tryz.prog 14 #[.agg #[.int .i64 XL, .slice B XC.length e]] W (RetV W (.tuple #[.int .i64 ((-2) ^ ((curL wd ht xs).length - 1)), .int .i64 0]))) := hide fun h0 W B e h => by
      have := implPolySum_any XL B e XC W h (by omega)
      have h1 := br_plain (wd := wd) (ht := ht) h0
      rw [hX] at h1
      have h2 := (sum_loop ((curL wd ht xs).length - 1) (by omega)).1
      rw [← h1] at h2
      unfold sumP at this
      rw [hvX, if_pos rfl, h2] at this
      exact this
    have HPW : Hid (∀ j : Nat, j ≤ 26 → IntKind.i64.wrap ((-2) ^ j * -2) = (-2 : Int) ^ (j + 1)) := hide fun j hj => by
      have h1 := (sum_loop (j + 1) (by omega)).2
      have h2 : (2 : Nat) ^ (j + 1) ≤ 2 ^ 27 := Nat.pow_le_pow_right (by omega) (by omega)
      have h3 : (-2 : Int) ^ (j + 1) = (-2) ^ j * -2 := Int.pow_succ ..
      rw [h3] at h1 ⊢
      rw [IntKind.wrap_i64]
      omega
    obtain ⟨n, hn⟩ : ∃ n, n = (curL wd ht xs).length := ⟨_, rfl⟩
    rw [← hn] at HCC HPS hcu
    have HBC := hide hbc
    have HXX := hide hX
    have HT := hide hT
    have hw3 : IntKind.i64.wrap (-3 * V) = -3 * V := by rw [IntKind.wrap_i64]; omega
    clear hv hs hls hcap hX hV hT hY hvX hkX hnl hfew hnseg hn hbc hd hlong hl hm hr hb hlen hl1 hm1 hr1 h8 h20 hTb
    obtain ⟨pa_x1, pb_x1, pc_x1⟩ := (Bx.new_ w1 (w1.heap.size) 26 #[.int .i64 wd, .int .i64 ht, .slice A xs.length c] (by simp)).three
    go_wp2_with fail
    refine (HIB.out _ (((oy).alloc (.cells #[.int .i64 wd, .int .i64 ht, .slice A xs.length c] 26))).rd).mono ?_
    rintro e w2 ⟨X2, e2, rfl, oX, hb2⟩
    have more_2 := ((more_1).alloc (.cells #[.int .i64 wd, .int .i64 ht, .slice A xs.length c] 26)).below hb2
    have oy_2 := ((oy).alloc (.cells #[.int .i64 wd, .int .i64 ht, .slice A xs.length c] 26)).below hb2
    have p_2 := (Bx.new_ w1 (w1.heap.size) 26 #[.int .i64 wd, .int .i64 ht, .slice A xs.length c] (by simp)).below hb2
    obtain ⟨pa_2, pb_2, pc_2⟩ := (p_2).three
    have z_2 : (w1.alloc (.cells #[.int .i64 wd, .int .i64 ht, .slice A xs.length c] 26)).heap.size ≤ w2.heap.size := hb2.size
    simp only [World.size_alloc] at z_2
    have B_2 := ((B_1).alloc (by first | omega | (simp; omega) | simp) (.cells #[.int .i64 wd, .int .i64 ht, .slice A xs.length c] 26)).trans (hb2.mono (by first | omega | (simp; omega) | simp))
    obtain ⟨pa_x2, pb_x2, pc_x2⟩ := ((p_2).alloc (.cells #[.int .i64 XL, .slice X2 XC.length e2] 29)).three
    obtain ⟨xa_x2, xb_x2⟩ := (Bx.new_ w2 (w2.heap.size) 29 #[.int .i64 XL, .slice X2 XC.length e2] (by simp)).two
    go_wp2_with fail
    refine (HNB.out _ (((oy_2).alloc (.cells #[.int .i64 XL, .slice X2 XC.length e2] 29))).rd).mono ?_
    rintro e w3 ⟨Y3, e3, rfl, oY, hb3⟩
    have more_3 := ((more_2).alloc (.cells #[.int .i64 XL, .slice X2 XC.length e2] 29)).below hb3
    have oy_3 := ((oy_2).alloc (.cells #[.int .i64 XL, .slice X2 XC.length e2] 29)).below hb3
    have p_3 := ((p_2).alloc (.cells #[.int .i64 XL, .slice X2 XC.length e2] 29)).below hb3
    obtain ⟨pa_3, pb_3, pc_3⟩ := (p_3).three
    have oX_3 := ((oX).alloc (.cells #[.int .i64 XL, .slice X2 XC.length e2] 29)).below hb3
    have x_3 := (Bx.new_ w2 (w2.heap.size) 29 #[.int .i64 XL, .slice X2 XC.length e2] (by simp)).below hb3
    obtain ⟨xa_3, xb_3⟩ := (x_3).two
    have z_3 : (w2.alloc (.cells #[.int .i64 XL, .slice X2 XC.length e2] 29)).heap.size ≤ w3.heap.size := hb3.size
    simp only [World.size_alloc] at z_3
    have B_3 := ((B_2).alloc (by first | omega | (simp; omega) | simp) (.cells #[.int .i64 XL, .slice X2 XC.length e2] 29)).trans (hb3.mono (by first | omega | (simp; omega) | simp))
    obtain ⟨pa_x3, pb_x3, pc_x3⟩ := ((p_3).alloc (.cells #[.int .i64 YL, .slice Y3 YC.length e3] 29)).three
    obtain ⟨xa_x3, xb_x3⟩ := ((x_3).alloc (.cells #[.int .i64 YL, .slice Y3 YC.length e3] 29)).two
    obtain ⟨nma_x3, nmb_x3⟩ := (Bx.new_ w3 (w3.heap.size) 29 #[.int .i64 YL, .slice Y3 YC.length e3] (by simp)).two
    go_wp2_with fail
    refine (HWR.out _ (((oy_3).alloc (.cells #[.int .i64 YL, .slice Y3 YC.length e3] 29))).rd).mono ?_
    rintro e w4 ⟨rfl, hb4⟩
    have more_4 := ((more_3).alloc (.cells #[.int .i64 YL, .slice Y3 YC.length e3] 29)).below hb4
    have oy_4 := ((oy_3).alloc (.cells #[.int .i64 YL, .slice Y3 YC.length e3] 29)).below hb4
    have p_4 := ((p_3).alloc (.cells #[.int .i64 YL, .slice Y3 YC.length e3] 29)).below hb4
    obtain ⟨pa_4, pb_4, pc_4⟩ := (p_4).three
    have oX_4 := ((oX_3).alloc (.cells #[.int .i64 YL, .slice Y3 YC.length e3] 29)).below hb4
    have x_4 := ((x_3).alloc (.cells #[.int .i64 YL, .slice Y3 YC.length e3] 29)).below hb4
    obtain ⟨xa_4, xb_4⟩ := (x_4).two
    have oY_4 := ((oY).alloc (.cells #[.int .i64 YL, .slice Y3 YC.length e3] 29)).below hb4
    have nm_4 := (Bx.new_ w3 (w3.heap.size) 29 #[.int .i64 YL, .slice Y3 YC.length e3] (by simp)).below hb4
    obtain ⟨nma_4, nmb_4⟩ := (nm_4).two
    have z_4 : (w3.alloc (.cells #[.int .i64 YL, .slice Y3 YC.length e3] 29)).heap.size ≤ w4.heap.size := hb4.size
    simp only [World.size_alloc] at z_4
    have B_4 := ((B_3).alloc (by first | omega | (simp; omega) | simp) (.cells #[.int .i64 YL, .slice Y3 YC.length e3] 29)).trans (hb4.mono (by first | omega | (simp; omega) | simp))
    go_wp2_with fail
    refine (HVP.out _ _ _ ((oX_4)).rd).mono ?_
    rintro e w5 ⟨rfl, hb5⟩
    have more_5 := (more_4).below hb5
    have oy_5 := (oy_4).below hb5
    have p_5 := (p_4).below hb5
    obtain ⟨pa_5, pb_5, pc_5⟩ := (p_5).three
    have oX_5 := (oX_4).below hb5
    have x_5 := (x_4).below hb5
    obtain ⟨xa_5, xb_5⟩ := (x_5).two
    have oY_5 := (oY_4).below hb5
    have nm_5 := (nm_4).below hb5
    obtain ⟨nma_5, nmb_5⟩ := (nm_5).two
    have z_5 : w4.heap.size ≤ w5.heap.size := hb5.size
    have B_5 := (B_4).trans (hb5.mono (by first | omega | (simp; omega) | simp))
    go_upto_if 75 with fail
    go_cut [12] from 219 to 0 (fun s12 wx => s12 = .int .i64 T ∧ w5 = wx)
    case first =>
      by_cases h2 : Int.tmod V 2 = 0
      · have h3 : (Int.tmod V 2 != 0) = false := by rw [h2]; rfl
        have HT1 : Hid (T = 1) := hide (by rw [HT.out]; unfold nbT; rw [if_pos h2])
        clear h2
        go_wp2_with fail
        go_meet
        exact ⟨by rw [HT1.out], rfl⟩
      · have h3 : (Int.tmod V 2 != 0) = true := by simpa using h2
        have HT1 : Hid (T = -1) := hide (by rw [HT.out]; unfold nbT; rw [if_neg h2])
        go_wp2_with fail
        go_meet
        exact ⟨by rw [HT1.out], rfl⟩
    case rest =>
      obtain ⟨rfl, rfl⟩ := hcut
      go_wp2_with fail
      refine (HSH.out _ _ _ ((oX_5)).rd).mono ?_
      rintro e w6 ⟨U6, e6, rfl, oU, hb6⟩
      have more_6 := (more_5).below hb6
      have oy_6 := (oy_5).below hb6
      have p_6 := (p_5).below hb6
      obtain ⟨pa_6, pb_6, pc_6⟩ := (p_6).three
      have oX_6 := (oX_5).below hb6
      have x_6 := (x_5).below hb6
      obtain ⟨xa_6, xb_6⟩ := (x_6).two
      have oY_6 := (oY_5).below hb6
      have nm_6 := (nm_5).below hb6
      obtain ⟨nma_6, nmb_6⟩ := (nm_6).two
      have z_6 : w5.heap.size ≤ w6.heap.size := hb6.size
      have B_6 := (B_5).trans (hb6.mono (by first | omega | (simp; omega) | simp))
      obtain ⟨pa_x4, pb_x4, pc_x4⟩ := ((p_6).alloc (.cells #[.int .i64 YL, .slice U6 YC.length e6] 29)).three
      obtain ⟨xa_x4, xb_x4⟩ := ((x_6).alloc (.cells #[.int .i64 YL, .slice U6 YC.length e6] 29)).two
      obtain ⟨nma_x4, nmb_x4⟩ := ((nm_6).alloc (.cells #[.int .i64 YL, .slice U6 YC.length e6] 29)).two
      obtain ⟨owa_x4, owb_x4⟩ := (Bx.new_ w6 (w6.heap.size) 29 #[.int .i64 YL, .slice U6 YC.length e6] (by simp)).two
      go_wp2_with fail
      refine (HSP.out _ _ _ _ _ (((oY_6).alloc (.cells #[.int .i64 YL, .slice U6 YC.length e6] 29))).rd (((oU).alloc (.cells #[.int .i64 YL, .slice U6 YC.length e6] 29))).rd).mono ?_
      rintro e w7 ⟨rfl, hb7⟩
      have more_7 := ((more_6).alloc (.cells #[.int .i64 YL, .slice U6 YC.length e6] 29)).below hb7
      have oy_7 := ((oy_6).alloc (.cells #[.int .i64 YL, .slice U6 YC.length e6] 29)).below hb7
      have p_7 := ((p_6).alloc (.cells #[.int .i64 YL, .slice U6 YC.length e6] 29)).below hb7
      obtain ⟨pa_7, pb_7, pc_7⟩ := (p_7).three
      have oX_7 := ((oX_6).alloc (.cells #[.int .i64 YL, .slice U6 YC.length e6] 29)).below hb7
      have x_7 := ((x_6).alloc (.cells #[.int .i64 YL, .slice U6 YC.length e6] 29)).below hb7
      obtain ⟨xa_7, xb_7⟩ := (x_7).two
      have oY_7 := ((oY_6).alloc (.cells #[.int .i64 YL, .slice U6 YC.length e6] 29)).below hb7
      have nm_7 := ((nm_6).alloc (.cells #[.int .i64 YL, .slice U6 YC.length e6] 29)).below hb7
      obtain ⟨nma_7, nmb_7⟩ := (nm_7).two
      have oU_7 := ((oU).alloc (.cells #[.int .i64 YL, .slice U6 YC.length e6] 29)).below hb7
      have ow_7 := (Bx.new_ w6 (w6.heap.size) 29 #[.int .i64 YL, .slice U6 YC.length e6] (by simp)).below hb7
      obtain ⟨owa_7, owb_7⟩ := (ow_7).two
      have z_7 : (w6.alloc (.cells #[.int .i64 YL, .slice U6 YC.length e6] 29)).heap.size ≤ w7.heap.size := hb7.size
      simp only [World.size_alloc] at z_7
      have B_7 := ((B_6).alloc (by first | omega | (simp; omega) | simp) (.cells #[.int .i64 YL, .slice U6 YC.length e6] 29)).trans (hb7.mono (by first | omega | (simp; omega) | simp))
      go_wp2_with fail
      refine (HCR.out _ ((oy_7)).rd).mono ?_
      rintro e w8 ⟨Z8, e8, rfl, oZ, hb8⟩
      have more_8 := (more_7).below hb8
      have oy_8 := (oy_7).below hb8
      have p_8 := (p_7).below hb8
      obtain ⟨pa_8, pb_8, pc_8⟩ := (p_8).three
      have oX_8 := (oX_7).below hb8
      have x_8 := (x_7).below hb8
      obtain ⟨xa_8, xb_8⟩ := (x_8).two
      have oY_8 := (oY_7).below hb8
      have nm_8 := (nm_7).below hb8
      obtain ⟨nma_8, nmb_8⟩ := (nm_8).two
      have oU_8 := (oU_7).below hb8
      have ow_8 := (ow_7).below hb8
      obtain ⟨owa_8, owb_8⟩ := (ow_8).two
      have z_8 : w7.heap.size ≤ w8.heap.size := hb8.size
      have B_8 := (B_7).trans (hb8.mono (by first | omega | (simp; omega) | simp))
      have hzl : (zTo xs xs.length).length ≤ 200 := by have := zTo_len xs xs.length; omega
      have HZN : Hid ((zTo xs xs.length).length = crN xs) := hide rfl
      obtain ⟨zs, hzs⟩ : ∃ zs, zs = zTo xs xs.length := ⟨_, rfl⟩
      rw [← hzs] at hzl HZN
      clear HNB HWR HVP HSH HSP HCR
      rw [← hzs]
      clear hzs
      by_cases h0 : zs.length = 0
      · have e0 : ((zs.length : Int) == 0) = true := by rw [h0]; rfl
        have HPS2 := hide (HPS.out (by rw [← HZN.out]; exact h0))
        clear h0 HPS
        go_wp2_with fail
        refine (HCC.out _ ((oy_8)).rd).mono ?_
        rintro e w9 ⟨rfl, hb9⟩
        have more_9 := (more_8).below hb9
        have oy_9 := (oy_8).below hb9
        have p_9 := (p_8).below hb9
        obtain ⟨pa_9, pb_9, pc_9⟩ := (p_9).three
        have oX_9 := (oX_8).below hb9
        have x_9 := (x_8).below hb9
        obtain ⟨xa_9, xb_9⟩ := (x_9).two
        have oY_9 := (oY_8).below hb9
        have nm_9 := (nm_8).below hb9
        obtain ⟨nma_9, nmb_9⟩ := (nm_9).two
        have oU_9 := (oU_8).below hb9
        have ow_9 := (ow_8).below hb9
        obtain ⟨owa_9, owb_9⟩ := (ow_9).two
        have oZ_9 := (oZ).below hb9
        have z_9 : w8.heap.size ≤ w9.heap.size := hb9.size
        have B_9 := (B_8).trans (hb9.mono (by first | omega | (simp; omega) | simp))
        go_wp2_with fail
        refine (HPS2.out _ _ _ ((oX_9)).rd).mono ?_
        rintro e w10 ⟨rfl, hb10⟩
        have more_10 := (more_9).below hb10
        have oy_10 := (oy_9).below hb10
        have p_10 := (p_9).below hb10
        obtain ⟨pa_10, pb_10, pc_10⟩ := (p_10).three
        have oX_10 := (oX_9).below hb10
        have x_10 := (x_9).below hb10
        obtain ⟨xa_10, xb_10⟩ := (x_10).two
        have oY_10 := (oY_9).below hb10
        have nm_10 := (nm_9).below hb10
        obtain ⟨nma_10, nmb_10⟩ := (nm_10).two
        have oU_10 := (oU_9).below hb10
        have ow_10 := (ow_9).below hb10
        obtain ⟨owa_10, owb_10⟩ := (ow_10).two
        have oZ_10 := (oZ_9).below hb10
        have z_10 : w9.heap.size ≤ w10.heap.size := hb10.size
        have B_10 := (B_9).trans (hb10.mono (by first | omega | (simp; omega) | simp))
        have HBF := hide (B_10)
        obtain ⟨S, hS⟩ : ∃ S : Int, S = (-2) ^ (n - 1) := ⟨_, rfl⟩
        have HS := hide hS
        rw [← hS]
        clear hS
        go_wp2_with fail
        go_loopw [21, 22] (fun s21 s22 wr => ∃ (k : Nat) (v : Int), 1 ≤ k ∧ (k ≤ n ∨ k = 1) ∧ s22 = .int .i64 (k : Int) ∧ s21 = .int .i64 v ∧ Hid (v = (-2) ^ (k - 1)) ∧ wr = w10) (fun _ s22 _ => n - (intOf s22).toNat)
        case atStart => exact ⟨1, 1, Nat.le_refl _, .inr rfl, rfl, rfl, hide rfl, rfl⟩
        case round =>
          obtain ⟨k, v, hk1, hk2, rfl, rfl, hvv, rfl⟩ := hrel
          by_cases hkn : k < n
          · have hkI : (k : Int) < (n : Int) := by omega
            obtain ⟨v2, hv2⟩ : ∃ v2 : Int, v2 = (-2) ^ k := ⟨_, rfl⟩
            have hwv : IntKind.i64.wrap (v * -2) = v2 := by
              have h1 := HPW.out (k - 1) (by omega)
              rw [← hvv.out, show k - 1 + 1 = k by omega, ← hv2] at h1
              exact h1
            have HV2 : Hid (v2 = (-2) ^ (k + 1 - 1)) := hide hv2
            clear hv2
            go_wp2_with fail
            go_roundw
            case rel => exact ⟨k + 1, v2, by omega, by omega, by go_num, rfl, HV2, by trivial⟩
            case measure => simp [intOf]; omega
          · have hkI : ¬ (k : Int) < (n : Int) := by omega
            have hsv : (S == v) = true := by
              rw [HS.out, hvv.out, show k - 1 = n - 1 by omega]
              simp
            go_wp2_with fail
            go_ret
            exact ⟨rfl, HBF.out⟩
      ·
        have e0 : ((zs.length : Int) == 0) = false := by rw [beq_eq_false_iff_ne]; omega
        go_wp2_with fail
        refine (a2At_any A1 c1 xs1 0 0 (zs.length : Int) _ (more_8) HB1.out rfl (by omega) (by omega) (by omega)).mono ?_
        rintro e w9 ⟨k0, rfl, hk0, hk1, rfl⟩
        obtain ⟨k, rfl⟩ : ∃ k : Nat, k0 = (k : Int) := ⟨k0.toNat, by omega⟩
        obtain ⟨av, bw, yL, yC, zL, zC, uL, uC, vL, vC, la, lb, sa, sb, va, vb, ra, rb, hu, hvv, hadd, ly, lz, lu, lv⟩ := cross_facts HBC.out HXX.out (k := k) (by rw [← HZN.out]; omega)
        have HSA : Hid (∀ (W : World), RI W A xs → Calls Tryz.prog 16 #[.agg #[.int .i64 wd, .int .i64 ht, .slice A xs.length c], .int .i64 (k : Int), .bool true] W (RetPanC W wd ht av 0)) := hide fun W h => by
          have := implSmoothAt_any wd ht A c xs (k : Int) true W h (by omega)
          rw [sa] at this
          exact this
        have HSB : Hid (∀ (W : World), RI W A xs → Calls Tryz.prog 16 #[.agg #[.int .i64 wd, .int .i64 ht, .slice A xs.length c], .int .i64 (k : Int), .bool false] W (RetPanC W wd ht bw 0)) := hide fun W h => by
          have := implSmoothAt_any wd ht A c xs (k : Int) false W h (by omega)
          rw [sb] at this
          exact this
        have HVA : Hid (∀ (W : World) (B : Option Addr) (e : Nat), RI W B av → Calls Tryz.prog 17 #[.agg #[.int .i64 wd, .int .i64 ht, .slice B av.length e]] W (RetV W (.bool true))) := hide fun W B e h => by
          have := specValidPanel_any wd ht B e av W h (by omega)
          rw [va] at this
          exact this
        have HVB : Hid (∀ (W : World) (B : Option Addr) (e : Nat), RI W B bw → Calls Tryz.prog 17 #[.agg #[.int .i64 wd, .int .i64 ht, .slice B bw.length e]] W (RetV W (.bool true))) := hide fun W B e h => by
          have := specValidPanel_any wd ht B e bw W h (by omega)
          rw [vb] at this
          exact this
        have HBA : Hid (∀ (W : World) (B : Option Addr) (e : Nat), RI W B av → Calls Tryz.prog 18 #[.agg #[.int .i64 wd, .int .i64 ht, .slice B av.length e]] W (RetPC W yL yC 0)) := hide fun W B e h => by
          have := specBracketOf_any wd ht B e av W h (by omega)
          rw [ra] at this
          exact this
        have HBB : Hid (∀ (W : World) (B : Option Addr) (e : Nat), RI W B bw → Calls Tryz.prog 18 #[.agg #[.int .i64 wd, .int .i64 ht, .slice B bw.length e]] W (RetPC W zL zC 0)) := hide fun W B e h => by
          have := specBracketOf_any wd ht B e bw W h (by omega)
          rw [rb] at this
          exact this
        have HUU : Hid (∀ (W : World) (B : Option Addr) (e : Nat), RI W B yC → Calls Tryz.prog 10 #[.agg #[.int .i64 yL, .slice B yC.length e], .int .i64 1, .int .i64 1] W (RetPC W uL uC 0)) := hide fun W B e h => by
          have := specShiftPoly_any yL B e yC 1 1 W h (by omega)
          rw [hu] at this
          exact this
        have HVV : Hid (∀ (W : World) (B : Option Addr) (e : Nat), RI W B zC → Calls Tryz.prog 10 #[.agg #[.int .i64 zL, .slice B zC.length e], .int .i64 (-1), .int .i64 1] W (RetPC W vL vC 0)) := hide fun W B e h => by
          have := specShiftPoly_any zL B e zC (-1) 1 W h (by omega)
          rw [hvv] at this
          exact this
        have HAD : Hid (∀ (W : World) (b1 b2 : Nat) (B B' : Option Addr) (e e' : Nat), OwnI W b1 B e uC → OwnI W b2 B' e' vC → Calls Tryz.prog 19 #[.agg #[.int .i64 uL, .slice B uC.length e], .agg #[.int .i64 vL, .slice B' vC.length e']] W (RetPC W XL XC 0)) := hide fun W b1 b2 B B' e e' h h' => by
          have := specAddPolys_any uL B e uC vL B' e' vC W h.rd h'.rd (by omega) (by omega) h.cap_ h'.cap_
          rw [hadd] at this
          exact this
        clear la lb sa sb va vb ra rb hu hvv hadd ly lz lu lv HPS HCC HPW h0 hk0 hk1
        go_wp2_with fail
        refine (HSA.out _ ((oy_8)).rd).mono ?_
        rintro e w9 ⟨P9, e9, rfl, oa, hb9⟩
        have more_9 := (more_8).below hb9
        have oy_9 := (oy_8).below hb9
        have p_9 := (p_8).below hb9
        obtain ⟨pa_9, pb_9, pc_9⟩ := (p_9).three
        have oX_9 := (oX_8).below hb9
        have x_9 := (x_8).below hb9
        obtain ⟨xa_9, xb_9⟩ := (x_9).two
        have oY_9 := (oY_8).below hb9
        have nm_9 := (nm_8).below hb9
        obtain ⟨nma_9, nmb_9⟩ := (nm_9).two
        have oU_9 := (oU_8).below hb9
        have ow_9 := (ow_8).below hb9
        obtain ⟨owa_9, owb_9⟩ := (ow_9).two
        have oZ_9 := (oZ).below hb9
        have z_9 : w8.heap.size ≤ w9.heap.size := hb9.size
        have B_9 := (B_8).trans (hb9.mono (by first | omega | (simp; omega) | simp))
        obtain ⟨pa_x5, pb_x5, pc_x5⟩ := ((p_9).alloc (.cells #[.int .i64 wd, .int .i64 ht, .slice P9 av.length e9] 26)).three
        obtain ⟨xa_x5, xb_x5⟩ := ((x_9).alloc (.cells #[.int .i64 wd, .int .i64 ht, .slice P9 av.length e9] 26)).two
        obtain ⟨baa_x5, bab_x5, bac_x5⟩ := (Bx.new_ w9 (w9.heap.size) 26 #[.int .i64 wd, .int .i64 ht, .slice P9 av.length e9] (by simp)).three
        go_wp2_with fail
        refine (HSB.out _ (((oy_9).alloc (.cells #[.int .i64 wd, .int .i64 ht, .slice P9 av.length e9] 26))).rd).mono ?_
        rintro e w10 ⟨P10, e10, rfl, ob, hb10⟩
        have more_10 := ((more_9).alloc (.cells #[.int .i64 wd, .int .i64 ht, .slice P9 av.length e9] 26)).below hb10
        have oy_10 := ((oy_9).alloc (.cells #[.int .i64 wd, .int .i64 ht, .slice P9 av.length e9] 26)).below hb10
        have p_10 := ((p_9).alloc (.cells #[.int .i64 wd, .int .i64 ht, .slice P9 av.length e9] 26)).below hb10
        obtain ⟨pa_10, pb_10, pc_10⟩ := (p_10).three
        have oX_10 := ((oX_9).alloc (.cells #[.int .i64 wd, .int .i64 ht, .slice P9 av.length e9] 26)).below hb10
        have x_10 := ((x_9).alloc (.cells #[.int .i64 wd, .int .i64 ht, .slice P9 av.length e9] 26)).below hb10
        obtain ⟨xa_10, xb_10⟩ := (x_10).two
        have oY_10 := ((oY_9).alloc (.cells #[.int .i64 wd, .int .i64 ht, .slice P9 av.length e9] 26)).below hb10
        have nm_10 := ((nm_9).alloc (.cells #[.int .i64 wd, .int .i64 ht, .slice P9 av.length e9] 26)).below hb10
        obtain ⟨nma_10, nmb_10⟩ := (nm_10).two
        have oU_10 := ((oU_9).alloc (.cells #[.int .i64 wd, .int .i64 ht, .slice P9 av.length e9] 26)).below hb10
        have ow_10 := ((ow_9).alloc (.cells #[.int .i64 wd, .int .i64 ht, .slice P9 av.length e9] 26)).below hb10
        obtain ⟨owa_10, owb_10⟩ := (ow_10).two
        have oZ_10 := ((oZ_9).alloc (.cells #[.int .i64 wd, .int .i64 ht, .slice P9 av.length e9] 26)).below hb10
        have oa_10 := ((oa).alloc (.cells #[.int .i64 wd, .int .i64 ht, .slice P9 av.length e9] 26)).below hb10
        have ba_10 := (Bx.new_ w9 (w9.heap.size) 26 #[.int .i64 wd, .int .i64 ht, .slice P9 av.length e9] (by simp)).below hb10
        obtain ⟨baa_10, bab_10, bac_10⟩ := (ba_10).three
        have z_10 : (w9.alloc (.cells #[.int .i64 wd, .int .i64 ht, .slice P9 av.length e9] 26)).heap.size ≤ w10.heap.size := hb10.size
        simp only [World.size_alloc] at z_10
        have B_10 := ((B_9).alloc (by first | omega | (simp; omega) | simp) (.cells #[.int .i64 wd, .int .i64 ht, .slice P9 av.length e9] 26)).trans (hb10.mono (by first | omega | (simp; omega) | simp))
        obtain ⟨pa_x6, pb_x6, pc_x6⟩ := ((p_10).alloc (.cells #[.int .i64 wd, .int .i64 ht, .slice P10 bw.length e10] 26)).three
        obtain ⟨xa_x6, xb_x6⟩ := ((x_10).alloc (.cells #[.int .i64 wd, .int .i64 ht, .slice P10 bw.length e10] 26)).two
        obtain ⟨baa_x6, bab_x6, bac_x6⟩ := ((ba_10).alloc (.cells #[.int .i64 wd, .int .i64 ht, .slice P10 bw.length e10] 26)).three
        obtain ⟨bba_x6, bbb_x6, bbc_x6⟩ := (Bx.new_ w10 (w10.heap.size) 26 #[.int .i64 wd, .int .i64 ht, .slice P10 bw.length e10] (by simp)).three
        go_wp2_with fail
        refine (HVA.out _ _ _ (((oa_10).alloc (.cells #[.int .i64 wd, .int .i64 ht, .slice P10 bw.length e10] 26))).rd).mono ?_
        rintro e w11 ⟨rfl, hb11⟩
        have more_11 := ((more_10).alloc (.cells #[.int .i64 wd, .int .i64 ht, .slice P10 bw.length e10] 26)).below hb11
        have oy_11 := ((oy_10).alloc (.cells #[.int .i64 wd, .int .i64 ht, .slice P10 bw.length e10] 26)).below hb11
        have p_11 := ((p_10).alloc (.cells #[.int .i64 wd, .int .i64 ht, .slice P10 bw.length e10] 26)).below hb11
        obtain ⟨pa_11, pb_11, pc_11⟩ := (p_11).three
        have oX_11 := ((oX_10).alloc (.cells #[.int .i64 wd, .int .i64 ht, .slice P10 bw.length e10] 26)).below hb11
        have x_11 := ((x_10).alloc (.cells #[.int .i64 wd, .int .i64 ht, .slice P10 bw.length e10] 26)).below hb11
        obtain ⟨xa_11, xb_11⟩ := (x_11).two
        have oY_11 := ((oY_10).alloc (.cells #[.int .i64 wd, .int .i64 ht, .slice P10 bw.length e10] 26)).below hb11
        have nm_11 := ((nm_10).alloc (.cells #[.int .i64 wd, .int .i64 ht, .slice P10 bw.length e10] 26)).below hb11
        obtain ⟨nma_11, nmb_11⟩ := (nm_11).two
        have oU_11 := ((oU_10).alloc (.cells #[.int .i64 wd, .int .i64 ht, .slice P10 bw.length e10] 26)).below hb11
        have ow_11 := ((ow_10).alloc (.cells #[.int .i64 wd, .int .i64 ht, .slice P10 bw.length e10] 26)).below hb11
        obtain ⟨owa_11, owb_11⟩ := (ow_11).two
        have oZ_11 := ((oZ_10).alloc (.cells #[.int .i64 wd, .int .i64 ht, .slice P10 bw.length e10] 26)).below hb11
        have oa_11 := ((oa_10).alloc (.cells #[.int .i64 wd, .int .i64 ht, .slice P10 bw.length e10] 26)).below hb11
        have ba_11 := ((ba_10).alloc (.cells #[.int .i64 wd, .int .i64 ht, .slice P10 bw.length e10] 26)).below hb11
        obtain ⟨baa_11, bab_11, bac_11⟩ := (ba_11).three
        have ob_11 := ((ob).alloc (.cells #[.int .i64 wd, .int .i64 ht, .slice P10 bw.length e10] 26)).below hb11
        have bb_11 := (Bx.new_ w10 (w10.heap.size) 26 #[.int .i64 wd, .int .i64 ht, .slice P10 bw.length e10] (by simp)).below hb11
        obtain ⟨bba_11, bbb_11, bbc_11⟩ := (bb_11).three
        have z_11 : (w10.alloc (.cells #[.int .i64 wd, .int .i64 ht, .slice P10 bw.length e10] 26)).heap.size ≤ w11.heap.size := hb11.size
        simp only [World.size_alloc] at z_11
        have B_11 := ((B_10).alloc (by first | omega | (simp; omega) | simp) (.cells #[.int .i64 wd, .int .i64 ht, .slice P10 bw.length e10] 26)).trans (hb11.mono (by first | omega | (simp; omega) | simp))
        go_wp2_with fail
        refine (HVB.out _ _ _ ((ob_11)).rd).mono ?_
        rintro e w12 ⟨rfl, hb12⟩
        have more_12 := (more_11).below hb12
        have oy_12 := (oy_11).below hb12
        have p_12 := (p_11).below hb12
        obtain ⟨pa_12, pb_12, pc_12⟩ := (p_12).three
        have oX_12 := (oX_11).below hb12
        have x_12 := (x_11).below hb12
        obtain ⟨xa_12, xb_12⟩ := (x_12).two
        have oY_12 := (oY_11).below hb12
        have nm_12 := (nm_11).below hb12
        obtain ⟨nma_12, nmb_12⟩ := (nm_12).two
        have oU_12 := (oU_11).below hb12
        have ow_12 := (ow_11).below hb12
        obtain ⟨owa_12, owb_12⟩ := (ow_12).two
        have oZ_12 := (oZ_11).below hb12
        have oa_12 := (oa_11).below hb12
        have ba_12 := (ba_11).below hb12
        obtain ⟨baa_12, bab_12, bac_12⟩ := (ba_12).three
        have ob_12 := (ob_11).below hb12
        have bb_12 := (bb_11).below hb12
        obtain ⟨bba_12, bbb_12, bbc_12⟩ := (bb_12).three
        have z_12 : w11.heap.size ≤ w12.heap.size := hb12.size
        have B_12 := (B_11).trans (hb12.mono (by first | omega | (simp; omega) | simp))
        go_wp2_with fail
        refine (HBA.out _ _ _ ((oa_12)).rd).mono ?_
        rintro e w13 ⟨P13, e13, rfl, oyy, hb13⟩
        have more_13 := (more_12).below hb13
        have oy_13 := (oy_12).below hb13
        have p_13 := (p_12).below hb13
        obtain ⟨pa_13, pb_13, pc_13⟩ := (p_13).three
        have oX_13 := (oX_12).below hb13
        have x_13 := (x_12).below hb13
        obtain ⟨xa_13, xb_13⟩ := (x_13).two
        have oY_13 := (oY_12).below hb13
        have nm_13 := (nm_12).below hb13
        obtain ⟨nma_13, nmb_13⟩ := (nm_13).two
        have oU_13 := (oU_12).below hb13
        have ow_13 := (ow_12).below hb13
        obtain ⟨owa_13, owb_13⟩ := (ow_13).two
        have oZ_13 := (oZ_12).below hb13
        have oa_13 := (oa_12).below hb13
        have ba_13 := (ba_12).below hb13
        obtain ⟨baa_13, bab_13, bac_13⟩ := (ba_13).three
        have ob_13 := (ob_12).below hb13
        have bb_13 := (bb_12).below hb13
        obtain ⟨bba_13, bbb_13, bbc_13⟩ := (bb_13).three
        have z_13 : w12.heap.size ≤ w13.heap.size := hb13.size
        have B_13 := (B_12).trans (hb13.mono (by first | omega | (simp; omega) | simp))
        obtain ⟨pa_x7, pb_x7, pc_x7⟩ := ((p_13).alloc (.cells #[.int .i64 yL, .slice P13 yC.length e13] 29)).three
        obtain ⟨xa_x7, xb_x7⟩ := ((x_13).alloc (.cells #[.int .i64 yL, .slice P13 yC.length e13] 29)).two
        obtain ⟨baa_x7, bab_x7, bac_x7⟩ := ((ba_13).alloc (.cells #[.int .i64 yL, .slice P13 yC.length e13] 29)).three
        obtain ⟨bba_x7, bbb_x7, bbc_x7⟩ := ((bb_13).alloc (.cells #[.int .i64 yL, .slice P13 yC.length e13] 29)).three
        obtain ⟨byya_x7, byyb_x7⟩ := (Bx.new_ w13 (w13.heap.size) 29 #[.int .i64 yL, .slice P13 yC.length e13] (by simp)).two
        go_wp2_with fail
        refine (HBB.out _ _ _ (((ob_13).alloc (.cells #[.int .i64 yL, .slice P13 yC.length e13] 29))).rd).mono ?_
        rintro e w14 ⟨P14, e14, rfl, ozz, hb14⟩
        have more_14 := ((more_13).alloc (.cells #[.int .i64 yL, .slice P13 yC.length e13] 29)).below hb14
        have oy_14 := ((oy_13).alloc (.cells #[.int .i64 yL, .slice P13 yC.length e13] 29)).below hb14
        have p_14 := ((p_13).alloc (.cells #[.int .i64 yL, .slice P13 yC.length e13] 29)).below hb14
        obtain ⟨pa_14, pb_14, pc_14⟩ := (p_14).three
        have oX_14 := ((oX_13).alloc (.cells #[.int .i64 yL, .slice P13 yC.length e13] 29)).below hb14
        have x_14 := ((x_13).alloc (.cells #[.int .i64 yL, .slice P13 yC.length e13] 29)).below hb14
        obtain ⟨xa_14, xb_14⟩ := (x_14).two
        have oY_14 := ((oY_13).alloc (.cells #[.int .i64 yL, .slice P13 yC.length e13] 29)).below hb14
        have nm_14 := ((nm_13).alloc (.cells #[.int .i64 yL, .slice P13 yC.length e13] 29)).below hb14
        obtain ⟨nma_14, nmb_14⟩ := (nm_14).two
        have oU_14 := ((oU_13).alloc (.cells #[.int .i64 yL, .slice P13 yC.length e13] 29)).below hb14
        have ow_14 := ((ow_13).alloc (.cells #[.int .i64 yL, .slice P13 yC.length e13] 29)).below hb14
        obtain ⟨owa_14, owb_14⟩ := (ow_14).two
        have oZ_14 := ((oZ_13).alloc (.cells #[.int .i64 yL, .slice P13 yC.length e13] 29)).below hb14
        have oa_14 := ((oa_13).alloc (.cells #[.int .i64 yL, .slice P13 yC.length e13] 29)).below hb14
        have ba_14 := ((ba_13).alloc (.cells #[.int .i64 yL, .slice P13 yC.length e13] 29)).below hb14
        obtain ⟨baa_14, bab_14, bac_14⟩ := (ba_14).three
        have ob_14 := ((ob_13).alloc (.cells #[.int .i64 yL, .slice P13 yC.length e13] 29)).below hb14
        have bb_14 := ((bb_13).alloc (.cells #[.int .i64 yL, .slice P13 yC.length e13] 29)).below hb14
        obtain ⟨bba_14, bbb_14, bbc_14⟩ := (bb_14).three
        have oyy_14 := ((oyy).alloc (.cells #[.int .i64 yL, .slice P13 yC.length e13] 29)).below hb14
        have byy_14 := (Bx.new_ w13 (w13.heap.size) 29 #[.int .i64 yL, .slice P13 yC.length e13] (by simp)).below hb14
        obtain ⟨byya_14, byyb_14⟩ := (byy_14).two
        have z_14 : (w13.alloc (.cells #[.int .i64 yL, .slice P13 yC.length e13] 29)).heap.size ≤ w14.heap.size := hb14.size
        simp only [World.size_alloc] at z_14
        have B_14 := ((B_13).alloc (by first | omega | (simp; omega) | simp) (.cells #[.int .i64 yL, .slice P13 yC.length e13] 29)).trans (hb14.mono (by first | omega | (simp; omega) | simp))
        obtain ⟨xa_x8, xb_x8⟩ := ((x_14).alloc (.cells #[.int .i64 zL, .slice P14 zC.length e14] 29)).two
        obtain ⟨baa_x8, bab_x8, bac_x8⟩ := ((ba_14).alloc (.cells #[.int .i64 zL, .slice P14 zC.length e14] 29)).three
        obtain ⟨bba_x8, bbb_x8, bbc_x8⟩ := ((bb_14).alloc (.cells #[.int .i64 zL, .slice P14 zC.length e14] 29)).three
        obtain ⟨byya_x8, byyb_x8⟩ := ((byy_14).alloc (.cells #[.int .i64 zL, .slice P14 zC.length e14] 29)).two
        obtain ⟨bza_x8, bzb_x8⟩ := (Bx.new_ w14 (w14.heap.size) 29 #[.int .i64 zL, .slice P14 zC.length e14] (by simp)).two
        go_wp2_with fail
        refine (HUU.out _ _ _ (((oyy_14).alloc (.cells #[.int .i64 zL, .slice P14 zC.length e14] 29))).rd).mono ?_
        rintro e w15 ⟨P15, e15, rfl, ouu, hb15⟩
        have more_15 := ((more_14).alloc (.cells #[.int .i64 zL, .slice P14 zC.length e14] 29)).below hb15
        have oy_15 := ((oy_14).alloc (.cells #[.int .i64 zL, .slice P14 zC.length e14] 29)).below hb15
        have p_15 := ((p_14).alloc (.cells #[.int .i64 zL, .slice P14 zC.length e14] 29)).below hb15
        obtain ⟨pa_15, pb_15, pc_15⟩ := (p_15).three
        have oX_15 := ((oX_14).alloc (.cells #[.int .i64 zL, .slice P14 zC.length e14] 29)).below hb15
        have x_15 := ((x_14).alloc (.cells #[.int .i64 zL, .slice P14 zC.length e14] 29)).below hb15
        obtain ⟨xa_15, xb_15⟩ := (x_15).two
        have oY_15 := ((oY_14).alloc (.cells #[.int .i64 zL, .slice P14 zC.length e14] 29)).below hb15
        have nm_15 := ((nm_14).alloc (.cells #[.int .i64 zL, .slice P14 zC.length e14] 29)).below hb15
        obtain ⟨nma_15, nmb_15⟩ := (nm_15).two
        have oU_15 := ((oU_14).alloc (.cells #[.int .i64 zL, .slice P14 zC.length e14] 29)).below hb15
        have ow_15 := ((ow_14).alloc (.cells #[.int .i64 zL, .slice P14 zC.length e14] 29)).below hb15
        obtain ⟨owa_15, owb_15⟩ := (ow_15).two
        have oZ_15 := ((oZ_14).alloc (.cells #[.int .i64 zL, .slice P14 zC.length e14] 29)).below hb15
        have oa_15 := ((oa_14).alloc (.cells #[.int .i64 zL, .slice P14 zC.length e14] 29)).below hb15
        have ba_15 := ((ba_14).alloc (.cells #[.int .i64 zL, .slice P14 zC.length e14] 29)).below hb15
        obtain ⟨baa_15, bab_15, bac_15⟩ := (ba_15).three
        have ob_15 := ((ob_14).alloc (.cells #[.int .i64 zL, .slice P14 zC.length e14] 29)).below hb15
        have bb_15 := ((bb_14).alloc (.cells #[.int .i64 zL, .slice P14 zC.length e14] 29)).below hb15
        obtain ⟨bba_15, bbb_15, bbc_15⟩ := (bb_15).three
        have oyy_15 := ((oyy_14).alloc (.cells #[.int .i64 zL, .slice P14 zC.length e14] 29)).below hb15
        have byy_15 := ((byy_14).alloc (.cells #[.int .i64 zL, .slice P14 zC.length e14] 29)).below hb15
        obtain ⟨byya_15, byyb_15⟩ := (byy_15).two
        have ozz_15 := ((ozz).alloc (.cells #[.int .i64 zL, .slice P14 zC.length e14] 29)).below hb15
        have bz_15 := (Bx.new_ w14 (w14.heap.size) 29 #[.int .i64 zL, .slice P14 zC.length e14] (by simp)).below hb15
        obtain ⟨bza_15, bzb_15⟩ := (bz_15).two
        have z_15 : (w14.alloc (.cells #[.int .i64 zL, .slice P14 zC.length e14] 29)).heap.size ≤ w15.heap.size := hb15.size
        simp only [World.size_alloc] at z_15
        have B_15 := ((B_14).alloc (by first | omega | (simp; omega) | simp) (.cells #[.int .i64 zL, .slice P14 zC.length e14] 29)).trans (hb15.mono (by first | omega | (simp; omega) | simp))
        obtain ⟨xa_x9, xb_x9⟩ := ((x_15).alloc (.cells #[.int .i64 uL, .slice P15 uC.length e15] 29)).two
        obtain ⟨byya_x9, byyb_x9⟩ := ((byy_15).alloc (.cells #[.int .i64 uL, .slice P15 uC.length e15] 29)).two
        obtain ⟨bza_x9, bzb_x9⟩ := ((bz_15).alloc (.cells #[.int .i64 uL, .slice P15 uC.length e15] 29)).two
        obtain ⟨bua_x9, bub_x9⟩ := (Bx.new_ w15 (w15.heap.size) 29 #[.int .i64 uL, .slice P15 uC.length e15] (by simp)).two
        go_wp2_with fail
        refine (HVV.out _ _ _ (((ozz_15).alloc (.cells #[.int .i64 uL, .slice P15 uC.length e15] 29))).rd).mono ?_
        rintro e w16 ⟨P16, e16, rfl, ovv, hb16⟩
        have more_16 := ((more_15).alloc (.cells #[.int .i64 uL, .slice P15 uC.length e15] 29)).below hb16
        have oy_16 := ((oy_15).alloc (.cells #[.int .i64 uL, .slice P15 uC.length e15] 29)).below hb16
        have p_16 := ((p_15).alloc (.cells #[.int .i64 uL, .slice P15 uC.length e15] 29)).below hb16
        obtain ⟨pa_16, pb_16, pc_16⟩ := (p_16).three
        have oX_16 := ((oX_15).alloc (.cells #[.int .i64 uL, .slice P15 uC.length e15] 29)).below hb16
        have x_16 := ((x_15).alloc (.cells #[.int .i64 uL, .slice P15 uC.length e15] 29)).below hb16
        obtain ⟨xa_16, xb_16⟩ := (x_16).two
        have oY_16 := ((oY_15).alloc (.cells #[.int .i64 uL, .slice P15 uC.length e15] 29)).below hb16
        have nm_16 := ((nm_15).alloc (.cells #[.int .i64 uL, .slice P15 uC.length e15] 29)).below hb16
        obtain ⟨nma_16, nmb_16⟩ := (nm_16).two
        have oU_16 := ((oU_15).alloc (.cells #[.int .i64 uL, .slice P15 uC.length e15] 29)).below hb16
        have ow_16 := ((ow_15).alloc (.cells #[.int .i64 uL, .slice P15 uC.length e15] 29)).below hb16
        obtain ⟨owa_16, owb_16⟩ := (ow_16).two
        have oZ_16 := ((oZ_15).alloc (.cells #[.int .i64 uL, .slice P15 uC.length e15] 29)).below hb16
        have oa_16 := ((oa_15).alloc (.cells #[.int .i64 uL, .slice P15 uC.length e15] 29)).below hb16
        have ba_16 := ((ba_15).alloc (.cells #[.int .i64 uL, .slice P15 uC.length e15] 29)).below hb16
        obtain ⟨baa_16, bab_16, bac_16⟩ := (ba_16).three
        have ob_16 := ((ob_15).alloc (.cells #[.int .i64 uL, .slice P15 uC.length e15] 29)).below hb16
        have bb_16 := ((bb_15).alloc (.cells #[.int .i64 uL, .slice P15 uC.length e15] 29)).below hb16
        obtain ⟨bba_16, bbb_16, bbc_16⟩ := (bb_16).three
        have oyy_16 := ((oyy_15).alloc (.cells #[.int .i64 uL, .slice P15 uC.length e15] 29)).below hb16
        have byy_16 := ((byy_15).alloc (.cells #[.int .i64 uL, .slice P15 uC.length e15] 29)).below hb16
        obtain ⟨byya_16, byyb_16⟩ := (byy_16).two
        have ozz_16 := ((ozz_15).alloc (.cells #[.int .i64 uL, .slice P15 uC.length e15] 29)).below hb16
        have bz_16 := ((bz_15).alloc (.cells #[.int .i64 uL, .slice P15 uC.length e15] 29)).below hb16
        obtain ⟨bza_16, bzb_16⟩ := (bz_16).two
        have ouu_16 := ((ouu).alloc (.cells #[.int .i64 uL, .slice P15 uC.length e15] 29)).below hb16
        have bu_16 := (Bx.new_ w15 (w15.heap.size) 29 #[.int .i64 uL, .slice P15 uC.length e15] (by simp)).below hb16
        obtain ⟨bua_16, bub_16⟩ := (bu_16).two
        have z_16 : (w15.alloc (.cells #[.int .i64 uL, .slice P15 uC.length e15] 29)).heap.size ≤ w16.heap.size := hb16.size
        simp only [World.size_alloc] at z_16
        have B_16 := ((B_15).alloc (by first | omega | (simp; omega) | simp) (.cells #[.int .i64 uL, .slice P15 uC.length e15] 29)).trans (hb16.mono (by first | omega | (simp; omega) | simp))
        obtain ⟨xa_x10, xb_x10⟩ := ((x_16).alloc (.cells #[.int .i64 vL, .slice P16 vC.length e16] 29)).two
        obtain ⟨bza_x10, bzb_x10⟩ := ((bz_16).alloc (.cells #[.int .i64 vL, .slice P16 vC.length e16] 29)).two
        obtain ⟨bua_x10, bub_x10⟩ := ((bu_16).alloc (.cells #[.int .i64 vL, .slice P16 vC.length e16] 29)).two
        obtain ⟨bva_x10, bvb_x10⟩ := (Bx.new_ w16 (w16.heap.size) 29 #[.int .i64 vL, .slice P16 vC.length e16] (by simp)).two
        go_wp2_with fail
        refine (HAD.out _ _ _ _ _ _ _ (((ouu_16).alloc (.cells #[.int .i64 vL, .slice P16 vC.length e16] 29))) (((ovv).alloc (.cells #[.int .i64 vL, .slice P16 vC.length e16] 29)))).mono ?_
        rintro e w17 ⟨P17, e17, rfl, oss, hb17⟩
        have more_17 := ((more_16).alloc (.cells #[.int .i64 vL, .slice P16 vC.length e16] 29)).below hb17
        have oy_17 := ((oy_16).alloc (.cells #[.int .i64 vL, .slice P16 vC.length e16] 29)).below hb17
        have p_17 := ((p_16).alloc (.cells #[.int .i64 vL, .slice P16 vC.length e16] 29)).below hb17
        obtain ⟨pa_17, pb_17, pc_17⟩ := (p_17).three
        have oX_17 := ((oX_16).alloc (.cells #[.int .i64 vL, .slice P16 vC.length e16] 29)).below hb17
        have x_17 := ((x_16).alloc (.cells #[.int .i64 vL, .slice P16 vC.length e16] 29)).below hb17
        obtain ⟨xa_17, xb_17⟩ := (x_17).two
        have oY_17 := ((oY_16).alloc (.cells #[.int .i64 vL, .slice P16 vC.length e16] 29)).below hb17
        have nm_17 := ((nm_16).alloc (.cells #[.int .i64 vL, .slice P16 vC.length e16] 29)).below hb17
        obtain ⟨nma_17, nmb_17⟩ := (nm_17).two
        have oU_17 := ((oU_16).alloc (.cells #[.int .i64 vL, .slice P16 vC.length e16] 29)).below hb17
        have ow_17 := ((ow_16).alloc (.cells #[.int .i64 vL, .slice P16 vC.length e16] 29)).below hb17
        obtain ⟨owa_17, owb_17⟩ := (ow_17).two
        have oZ_17 := ((oZ_16).alloc (.cells #[.int .i64 vL, .slice P16 vC.length e16] 29)).below hb17
        have oa_17 := ((oa_16).alloc (.cells #[.int .i64 vL, .slice P16 vC.length e16] 29)).below hb17
        have ba_17 := ((ba_16).alloc (.cells #[.int .i64 vL, .slice P16 vC.length e16] 29)).below hb17
        obtain ⟨baa_17, bab_17, bac_17⟩ := (ba_17).three
        have ob_17 := ((ob_16).alloc (.cells #[.int .i64 vL, .slice P16 vC.length e16] 29)).below hb17
        have bb_17 := ((bb_16).alloc (.cells #[.int .i64 vL, .slice P16 vC.length e16] 29)).below hb17
        obtain ⟨bba_17, bbb_17, bbc_17⟩ := (bb_17).three
        have oyy_17 := ((oyy_16).alloc (.cells #[.int .i64 vL, .slice P16 vC.length e16] 29)).below hb17
        have byy_17 := ((byy_16).alloc (.cells #[.int .i64 vL, .slice P16 vC.length e16] 29)).below hb17
        obtain ⟨byya_17, byyb_17⟩ := (byy_17).two
        have ozz_17 := ((ozz_16).alloc (.cells #[.int .i64 vL, .slice P16 vC.length e16] 29)).below hb17
        have bz_17 := ((bz_16).alloc (.cells #[.int .i64 vL, .slice P16 vC.length e16] 29)).below hb17
        obtain ⟨bza_17, bzb_17⟩ := (bz_17).two
        have ouu_17 := ((ouu_16).alloc (.cells #[.int .i64 vL, .slice P16 vC.length e16] 29)).below hb17
        have bu_17 := ((bu_16).alloc (.cells #[.int .i64 vL, .slice P16 vC.length e16] 29)).below hb17
        obtain ⟨bua_17, bub_17⟩ := (bu_17).two
        have ovv_17 := ((ovv).alloc (.cells #[.int .i64 vL, .slice P16 vC.length e16] 29)).below hb17
        have bv_17 := (Bx.new_ w16 (w16.heap.size) 29 #[.int .i64 vL, .slice P16 vC.length e16] (by simp)).below hb17
        obtain ⟨bva_17, bvb_17⟩ := (bv_17).two
        have z_17 : (w16.alloc (.cells #[.int .i64 vL, .slice P16 vC.length e16] 29)).heap.size ≤ w17.heap.size := hb17.size
        simp only [World.size_alloc] at z_17
        have B_17 := ((B_16).alloc (by first | omega | (simp; omega) | simp) (.cells #[.int .i64 vL, .slice P16 vC.length e16] 29)).trans (hb17.mono (by first | omega | (simp; omega) | simp))
        obtain ⟨xa_x11, xb_x11⟩ := ((x_17).alloc (.cells #[.int .i64 XL, .slice P17 XC.length e17] 29)).two
        obtain ⟨bsma_x11, bsmb_x11⟩ := (Bx.new_ w17 (w17.heap.size) 29 #[.int .i64 XL, .slice P17 XC.length e17] (by simp)).two
        go_wp2_with fail
        refine (HSX.out _ _ _ _ _ (((oss).alloc (.cells #[.int .i64 XL, .slice P17 XC.length e17] 29))).rd (((oX_17).alloc (.cells #[.int .i64 XL, .slice P17 XC.length e17] 29))).rd).mono ?_
        rintro e w18 ⟨rfl, hb18⟩
        have more_18 := ((more_17).alloc (.cells #[.int .i64 XL, .slice P17 XC.length e17] 29)).below hb18
        have oy_18 := ((oy_17).alloc (.cells #[.int .i64 XL, .slice P17 XC.length e17] 29)).below hb18
        have p_18 := ((p_17).alloc (.cells #[.int .i64 XL, .slice P17 XC.length e17] 29)).below hb18
        obtain ⟨pa_18, pb_18, pc_18⟩ := (p_18).three
        have oX_18 := ((oX_17).alloc (.cells #[.int .i64 XL, .slice P17 XC.length e17] 29)).below hb18
        have x_18 := ((x_17).alloc (.cells #[.int .i64 XL, .slice P17 XC.length e17] 29)).below hb18
        obtain ⟨xa_18, xb_18⟩ := (x_18).two
        have oY_18 := ((oY_17).alloc (.cells #[.int .i64 XL, .slice P17 XC.length e17] 29)).below hb18
        have nm_18 := ((nm_17).alloc (.cells #[.int .i64 XL, .slice P17 XC.length e17] 29)).below hb18
        obtain ⟨nma_18, nmb_18⟩ := (nm_18).two
        have oU_18 := ((oU_17).alloc (.cells #[.int .i64 XL, .slice P17 XC.length e17] 29)).below hb18
        have ow_18 := ((ow_17).alloc (.cells #[.int .i64 XL, .slice P17 XC.length e17] 29)).below hb18
        obtain ⟨owa_18, owb_18⟩ := (ow_18).two
        have oZ_18 := ((oZ_17).alloc (.cells #[.int .i64 XL, .slice P17 XC.length e17] 29)).below hb18
        have oa_18 := ((oa_17).alloc (.cells #[.int .i64 XL, .slice P17 XC.length e17] 29)).below hb18
        have ba_18 := ((ba_17).alloc (.cells #[.int .i64 XL, .slice P17 XC.length e17] 29)).below hb18
        obtain ⟨baa_18, bab_18, bac_18⟩ := (ba_18).three
        have ob_18 := ((ob_17).alloc (.cells #[.int .i64 XL, .slice P17 XC.length e17] 29)).below hb18
        have bb_18 := ((bb_17).alloc (.cells #[.int .i64 XL, .slice P17 XC.length e17] 29)).below hb18
        obtain ⟨bba_18, bbb_18, bbc_18⟩ := (bb_18).three
        have oyy_18 := ((oyy_17).alloc (.cells #[.int .i64 XL, .slice P17 XC.length e17] 29)).below hb18
        have byy_18 := ((byy_17).alloc (.cells #[.int .i64 XL, .slice P17 XC.length e17] 29)).below hb18
        obtain ⟨byya_18, byyb_18⟩ := (byy_18).two
        have ozz_18 := ((ozz_17).alloc (.cells #[.int .i64 XL, .slice P17 XC.length e17] 29)).below hb18
        have bz_18 := ((bz_17).alloc (.cells #[.int .i64 XL, .slice P17 XC.length e17] 29)).below hb18
        obtain ⟨bza_18, bzb_18⟩ := (bz_18).two
        have ouu_18 := ((ouu_17).alloc (.cells #[.int .i64 XL, .slice P17 XC.length e17] 29)).below hb18
        have bu_18 := ((bu_17).alloc (.cells #[.int .i64 XL, .slice P17 XC.length e17] 29)).below hb18
        obtain ⟨bua_18, bub_18⟩ := (bu_18).two
        have ovv_18 := ((ovv_17).alloc (.cells #[.int .i64 XL, .slice P17 XC.length e17] 29)).below hb18
        have bv_18 := ((bv_17).alloc (.cells #[.int .i64 XL, .slice P17 XC.length e17] 29)).below hb18
        obtain ⟨bva_18, bvb_18⟩ := (bv_18).two
        have oss_18 := ((oss).alloc (.cells #[.int .i64 XL, .slice P17 XC.length e17] 29)).below hb18
        have bsm_18 := (Bx.new_ w17 (w17.heap.size) 29 #[.int .i64 XL, .slice P17 XC.length e17] (by simp)).below hb18
        obtain ⟨bsma_18, bsmb_18⟩ := (bsm_18).two
        have z_18 : (w17.alloc (.cells #[.int .i64 XL, .slice P17 XC.length e17] 29)).heap.size ≤ w18.heap.size := hb18.size
        simp only [World.size_alloc] at z_18
        have B_18 := ((B_17).alloc (by first | omega | (simp; omega) | simp) (.cells #[.int .i64 XL, .slice P17 XC.length e17] 29)).trans (hb18.mono (by first | omega | (simp; omega) | simp))
        have HBF := hide (B_18)
        go_wp2_with fail
        go_ret
        exact ⟨rfl, HBF.out⟩
end Go.Proofs.YtjlifbdaieblpaaGreat
