/-
  Contracts of AddPolys, of the program and of the reference. Conditions: the numbers are far below the machine's.
-/
import Derived.Test.YtffiejlfnecanaaPolyAddI
namespace Go.Proofs.Ytffiejlfnecanaa
open Go.RowKit
set_option linter.unusedVariables false

theorem vldP_bounds {low : Int} {xs : List Int} (h : vldP low xs = true) : -1000 ≤ low ∧ low ≤ 1000 ∧ xs.length ≤ 400 ∧ ∀ x ∈ xs, -1000000000000 ≤ x ∧ x ≤ 1000000000000 := by
  unfold vldP at h
  split at h
  · rename_i h0
    have hx := len_nil h0
    subst hx
    have : low = 0 := by simpa using h
    subst this
    simp
  · simp only [Bool.and_eq_true, List.all_eq_true, decide_eq_true_eq] at h
    obtain ⟨h1, h2, h3, _⟩ := h
    have h3' := inB_true.1 h3
    exact ⟨h3'.1, h3'.2, h2, fun x hx => inB_true.1 (h1 x hx)⟩

/-- a result, if it is valid -/
def resP (p : Int × List Int) : Int × List Int × Int := if vldP p.1 p.2 = true then (p.1, p.2, 0) else (0, [], 5)
theorem resP_yes {p : Int × List Int} (h : vldP p.1 p.2 = true) : resP p = (p.1, p.2, 0) := if_pos h
theorem resP_no {p : Int × List Int} (h : vldP p.1 p.2 = false) : resP p = (0, [], 5) := by unfold resP; rw [if_neg (by rw [h]; simp)]

theorem addRaw_le (l0 : Int) (xs0 : List Int) (l1 : Int) (xs1 : List Int) (h0 : -1000 ≤ l0 ∧ l0 ≤ 1000) (h1 : -1000 ≤ l1 ∧ l1 ≤ 1000) (n0 : xs0.length ≤ 400) (n1 : xs1.length ≤ 400) : (addP l0 xs0 l1 xs1).2.length ≤ 1048576 := by
  unfold addP
  split
  · exact Nat.le_trans (trimS_le _ _) (by omega)
  · split
    · exact Nat.le_trans (trimS_le _ _) (by omega)
    · refine Nat.le_trans (trimS_le _ _) ?_
      unfold addRaw
      rw [addAt_length, addAt_length, List.length_replicate]
      have f1 := lowOf_or l0 l1
      have f2 := highOf_or (l0 + xs0.length) (l1 + xs1.length)
      omega

def addPR (l0 : Int) (xs0 : List Int) (l1 : Int) (xs1 : List Int) : Int × List Int × Int :=
  if vldP l0 xs0 = true ∧ vldP l1 xs1 = true then resP (addP l0 xs0 l1 xs1) else (0, [], 1)
theorem resP_le (p : Int × List Int) : (resP p).2.1.length ≤ p.2.length := by unfold resP; split <;> simp
theorem addPR_le (l0 : Int) (xs0 : List Int) (l1 : Int) (xs1 : List Int) : (addPR l0 xs0 l1 xs1).2.1.length ≤ 1048576 := by
  unfold addPR
  split
  · rename_i h
    have h0 := vldP_bounds h.1
    have h1 := vldP_bounds h.2
    exact Nat.le_trans (resP_le _) (addRaw_le _ _ _ _ ⟨h0.1, h0.2.1⟩ ⟨h1.1, h1.2.1⟩ h0.2.2.1 h1.2.2.1)
  · simp

set_option maxHeartbeats 4000000 in
theorem specAddPolys_any (l0 : Int) (A0 : Option Addr) (c0 : Nat) (xs0 : List Int) (l1 : Int) (A1 : Option Addr) (c1 : Nat) (xs1 : List Int) (w : World) (h0 : RI w A0 xs0) (h1 : RI w A1 xs1) (n0 : xs0.length ≤ 1048576) (n1 : xs1.length ≤ 1048576)
    (k0 : xs0.length ≤ c0 ∧ c0 ≤ 9223372036854775807) (k1 : xs1.length ≤ c1 ∧ c1 ≤ 9223372036854775807) :
    Calls Try.prog 12 #[.agg #[.int .i64 l0, .slice A0 xs0.length c0], .agg #[.int .i64 l1, .slice A1 xs1.length c1]] w (RetPC w (addPR l0 xs0 l1 xs1).1 (addPR l0 xs0 l1 xs1).2.1 (addPR l0 xs0 l1 xs1).2.2) := by
  have p0 := ((Bx.new w 26 #[.int .i64 l0, .slice A0 xs0.length c0]).alloc (.cells #[.int .i64 l1, .slice A1 xs1.length c1] 26)).alloc (.cells #[.int .i64 0, .slice none 0 0] 26)
  have p1 := (Bx.new_ (w.alloc (.cells #[.int .i64 l0, .slice A0 xs0.length c0] 26)) (w.heap.size + 1) 26 #[.int .i64 l1, .slice A1 xs1.length c1] (by simp)).alloc (.cells #[.int .i64 0, .slice none 0 0] 26)
  have p2 := Bx.new_ ((w.alloc (.cells #[.int .i64 l0, .slice A0 xs0.length c0] 26)).alloc (.cells #[.int .i64 l1, .slice A1 xs1.length c1] 26)) (w.heap.size + 1 + 1) 26 #[.int .i64 0, .slice none 0 0] (by simp)
  have hB : Below w.heap.size w (((w.alloc (.cells #[.int .i64 l0, .slice A0 xs0.length c0] 26)).alloc (.cells #[.int .i64 l1, .slice A1 xs1.length c1] 26)).alloc (.cells #[.int .i64 0, .slice none 0 0] 26)) := (((Below.refl _ _).alloc (Nat.le_refl _) _).alloc (by simp) _).alloc (by simp; omega) _
  have r0 := ((h0.alloc (.cells #[.int .i64 l0, .slice A0 xs0.length c0] 26)).alloc (.cells #[.int .i64 l1, .slice A1 xs1.length c1] 26)).alloc (.cells #[.int .i64 0, .slice none 0 0] 26)
  have r1 := ((h1.alloc (.cells #[.int .i64 l0, .slice A0 xs0.length c0] 26)).alloc (.cells #[.int .i64 l1, .slice A1 xs1.length c1] 26)).alloc (.cells #[.int .i64 0, .slice none 0 0] 26)
  obtain ⟨pa0, pb0⟩ := p0.two
  obtain ⟨pa1, pb1⟩ := p1.two
  cases v0 : vldP l0 xs0
  · have HF := hide (show addPR l0 xs0 l1 xs1 = (0, [], 1) by unfold addPR; rw [if_neg (by rw [v0]; simp)])
    go_enter Try.func12, Try.ntmps12
    go_wp2_with fail
    refine (l18Ok_any _ _ l0 A0 c0 xs0 _ pa0 pb0 r0 n0).mono ?_
    rintro e w' ⟨rfl, rfl⟩
    go_wp2_with fail
    refine bodyPost_ret (v := .tuple #[.agg #[.int .i64 0, .slice none 0 0], .int .i64 1]) (by simp [results, Try.results12, go_sem]) rfl ?_
    rw [HF.out]
    exact ⟨none, 0, rfl, OwnI.nil _ _, hB⟩
  · cases v1 : vldP l1 xs1
    · have HF := hide (show addPR l0 xs0 l1 xs1 = (0, [], 1) by unfold addPR; rw [if_neg (by rw [v1]; simp)])
      go_enter Try.func12, Try.ntmps12
      go_wp2_with fail
      refine (l18Ok_any _ _ l0 A0 c0 xs0 _ pa0 pb0 r0 n0).mono ?_
      rintro e w' ⟨rfl, rfl⟩
      go_wp2_with fail
      refine (l18Ok_any _ _ l1 A1 c1 xs1 _ pa1 pb1 r1 n1).mono ?_
      rintro e w' ⟨rfl, rfl⟩
      go_wp2_with fail
      refine bodyPost_ret (v := .tuple #[.agg #[.int .i64 0, .slice none 0 0], .int .i64 1]) (by simp [results, Try.results12, go_sem]) rfl ?_
      rw [HF.out]
      exact ⟨none, 0, rfl, OwnI.nil _ _, hB⟩
    · obtain ⟨ba, bb, bc, _⟩ := vldP_bounds v0
      obtain ⟨bd, be, bf, _⟩ := vldP_bounds v1
      have HF := hide (show addPR l0 xs0 l1 xs1 = resP (addP l0 xs0 l1 xs1) by unfold addPR; rw [if_pos ⟨v0, v1⟩])
      have HL := hide (addRaw_le l0 xs0 l1 xs1 ⟨ba, bb⟩ ⟨bd, be⟩ bc bf)
      obtain ⟨k00, k01⟩ := k0
      obtain ⟨k10, k11⟩ := k1
      go_enter Try.func12, Try.ntmps12
      go_wp2_with fail
      refine (l18Ok_any _ _ l0 A0 c0 xs0 _ pa0 pb0 r0 n0).mono ?_
      rintro e w' ⟨rfl, rfl⟩
      go_wp2_with fail
      refine (l18Ok_any _ _ l1 A1 c1 xs1 _ pa1 pb1 r1 n1).mono ?_
      rintro e w' ⟨rfl, rfl⟩
      go_wp2_with fail
      refine (l18Add_any l0 A0 c0 xs0 l1 A1 c1 xs1 _ r0 r1 (by omega) (by omega) (by omega) (by omega) n0 n1 k00 k10 k01 k11).mono ?_
      rintro e w3 ⟨A3, c3, rfl, ho, hb⟩
      have q3 := p2.below hb
      have z3 := hb.size
      simp only [World.size_alloc] at z3
      have hl := HL.out
      obtain ⟨S, hS⟩ : ∃ S, addP l0 xs0 l1 xs1 = S := ⟨_, rfl⟩
      rw [hS] at hl ho HF
      rw [hS]
      obtain ⟨L, X⟩ := S
      have HF2 := HF.out
      have hl2 : X.length ≤ 1048576 := hl
      have ho2 : OwnI w3 _ A3 c3 X := ho
      clear hl ho hS HF HL
      cases v3 : vldP L X
      · have HR := hide (HF2.trans (resP_no (p := (L, X)) v3))
        go_wp2_with fail
        refine (l18Checked_no L A3 c3 X w3 ho2.rd hl2 v3).mono ?_
        rintro e w4 ⟨rfl, hb4⟩
        have q4 := q3.below hb4
        obtain ⟨qa, qb⟩ := q4.two
        have qf := q4.frozen 0
        have qg := q4.frozen 1
        have z4 := hb4.size
        go_wp2_with fail
        refine bodyPost_ret (v := .tuple #[.agg #[.int .i64 0, .slice none 0 0], .int .i64 5]) (by simp [results, Try.results12, go_sem, qa, qb]) rfl ?_
        rw [HR.out]
        exact ⟨none, 0, rfl, OwnI.nil _ _, (((hB.trans (hb.mono (by simp; omega))).trans (hb4.mono (by omega))).setCell (by simp; omega) _).setCell (by simp; omega) _⟩
      · have HR := hide (HF2.trans (resP_yes (p := (L, X)) v3))
        go_wp2_with fail
        refine (l18Checked_yes L A3 c3 X w3 ho2.rd hl2 v3).mono ?_
        rintro e w4 ⟨rfl, hb4⟩
        have q4 := q3.below hb4
        have ho4 := ho2.below hb4
        obtain ⟨qa, qb⟩ := q4.two
        have qf := q4.frozen 0
        have qg := q4.frozen 1
        have z4 := hb4.size
        go_wp2_with fail
        refine bodyPost_ret (v := .tuple #[.agg #[.int .i64 L, .slice A3 X.length c3], .int .i64 0]) (by simp [results, Try.results12, go_sem, qa, qb]) rfl ?_
        rw [HR.out]
        exact ⟨A3, c3, rfl, ((ho4.setLow (by simp) _).setLow (by simp) _).mono (by simp; omega), (((hB.trans (hb.mono (by simp; omega))).trans (hb4.mono (by omega))).setCell (by simp; omega) _).setCell (by simp; omega) _⟩
end Go.Proofs.Ytffiejlfnecanaa
