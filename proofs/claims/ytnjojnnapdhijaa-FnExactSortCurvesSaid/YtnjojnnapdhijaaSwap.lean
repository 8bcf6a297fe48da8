/-
  Words for two rows of a code that are exchanged, and the contract of the order of rows. Conditions: rows of at most 1048576 numbers.
-/
import Derived.Test.YtnjojnnapdhijaaSortMath
import Derived.Test.YtnjojnnapdhijaaCmp
namespace Go.Proofs.Ytnjojnnapdhijaa
open Go.RowKit
set_option linter.unusedVariables false

def sgm (i j k : Nat) : Nat := if k = j then i else if k = i then j else k
theorem sgm_inj {i j k l : Nat} (h : sgm i j k = sgm i j l) : k = l := by
  unfold sgm at h
  split at h <;> split at h <;> (try split at h) <;> (try split at h) <;> omega
theorem set_set_at {α : Type} {l : List α} {i j : Nat} {x y : α} (hx : l[i]? = some x) (hy : l[j]? = some y) (k : Nat) : ((l.set i y).set j x)[k]? = l[sgm i j k]? := by
  have h1 := (List.getElem?_eq_some_iff.1 hx).1
  have h2 := (List.getElem?_eq_some_iff.1 hy).1
  unfold sgm
  by_cases e : k = j
  · subst e
    rw [if_pos rfl, List.getElem?_set_self (by rw [List.length_set]; exact h2), hx]
  · rw [if_neg e, List.getElem?_set_ne (fun h => e h.symm)]
    by_cases e2 : k = i
    · subst e2
      rw [if_pos rfl, List.getElem?_set_self h1, hy]
    · rw [if_neg e2, List.getElem?_set_ne (fun h => e2 h.symm)]
theorem swp_eq {s : List Rw} {i j : Nat} {x y : Rw} (hx : s[i]? = some x) (hy : s[j]? = some y) : swp s i j = (s.set i y).set j x := by
  unfold swp
  rw [List.getD_eq_getElem?_getD, List.getD_eq_getElem?_getD, hx, hy]
  rfl
section
variable {w : World} {base top : Nat} {A : Option Addr} {c : Nat} {code : List (List Int)}
theorem ownI_hd {B : Option Addr} {d : Nat} {xs : List Int} {hs : List Hd} {b2 : Nat} (ho : OwnI w base B d xs) (h : Own hdE w b2 A c hs) : blk B = none ∨ blk B ≠ blk A := by
  rw [← intE_own] at ho
  exact Own.own_ne ho h (by decide)
/-- two rows exchanged -/
theorem OwnC.swap {g : Nat} (h : OwnC w base top (some ⟨g, 0, none⟩) c code) {i j : Nat} (hi : i < code.length) (hj : j < code.length) (hij : i ≠ j) :
    ∃ B1 d1 r1 B2 d2 r2, g < w.heap.size ∧ base ≤ g ∧ code[i]? = some r1 ∧ code[j]? = some r2 ∧ w.cell? ⟨g, i, none⟩ = some (.slice B1 r1.length d1) ∧ w.cell? ⟨g, j, none⟩ = some (.slice B2 r2.length d2) ∧
      w.frozen? ⟨g, i, none⟩ = false ∧ w.frozen? ⟨g, j, none⟩ = false ∧ RI w B1 r1 ∧ RI w B2 r2 ∧
      OwnC ((w.setCell ⟨g, i, none⟩ (.slice B2 r2.length d2)).setCell ⟨g, j, none⟩ (.slice B1 r1.length d1)) base top (some ⟨g, 0, none⟩) c (swp code i j) ∧
      w.grownBy ((w.setCell ⟨g, i, none⟩ (.slice B2 r2.length d2)).setCell ⟨g, j, none⟩ (.slice B1 r1.length d1)) (some g) := by
  obtain ⟨hs, h1, h2, h3, h4, h5⟩ := h
  obtain ⟨g1, x, e, hgb, hgs, hx, hc, hf⟩ := h1.row (k := i) (by omega)
  injection e with e
  injection e with e
  subst e
  obtain ⟨g2, y, e, _, _, hy, hc2, hf2⟩ := h1.row (k := j) (by omega)
  injection e with e
  injection e with e
  subst e
  have hr1 : code[i]? = some code[i] := List.getElem?_eq_getElem hi
  have hr2 : code[j]? = some code[j] := List.getElem?_eq_getElem hj
  obtain ⟨p1, p2, p3⟩ := h4 i x _ hx hr1
  obtain ⟨q1, q2, q3⟩ := h4 j y _ hy hr2
  have hci : w.cell? ⟨g, i, none⟩ = some (.slice x.A code[i].length x.c) := by
    have := hc 0 _ rfl
    rw [← p1]
    simpa [hdE] using this
  have hcj : w.cell? ⟨g, j, none⟩ = some (.slice y.A code[j].length y.c) := by
    have := hc2 0 _ rfl
    rw [← q1]
    simpa [hdE] using this
  have P1 := h1.put (k := i) (j := 0) (x := x) (y := y) (u := .slice y.A y.n y.c) hx (by simp [hdE]) rfl
  have hy1 : (hs.set i y)[j]? = some y := by rw [List.getElem?_set_ne hij]; exact hy
  have P2 := P1.1.put (k := j) (j := 0) (x := y) (y := x) (u := .slice x.A x.n x.c) hy1 (by simp [hdE]) rfl
  rw [p1, q1] at P2
  rw [q1] at P1
  have G := grown_trans P1.2 P2.2
  have O := P2.1
  simp only [hdE, Nat.mul_one, Nat.add_zero] at G O
  refine ⟨x.A, x.c, code[i], y.A, y.c, code[j], hgs, hgb, hr1, hr2, hci, hcj, hf _, hf _, p2.rd, q2.rd, ⟨(hs.set i y).set j x, O, h2, by rw [swp_len, List.length_set, List.length_set]; exact h3, fun k h xs e1 e2 => ?_, fun k l h h' e1 e2 hkl => ?_⟩, G⟩
  · rw [set_set_at hx hy] at e1
    rw [swp_eq hr1 hr2, set_set_at hr1 hr2] at e2
    obtain ⟨s1, s2, s3⟩ := h4 _ h xs e1 e2
    refine ⟨s1, s2.grown G ?_, s3⟩
    rcases ownI_hd s2 h1 with h | h
    · exact .inl h
    · exact .inr h
  · rw [set_set_at hx hy] at e1 e2
    exact h5 _ _ h h' e1 e2 (fun e => hkl (sgm_inj e))
end
theorem sortCmp_any (A B : Option Addr) (c d : Nat) (xs ys : List Int) (w : World) (hA : RI w A xs) (hB : RI w B ys) (hn : xs.length ≤ 1048576) (hm : ys.length ≤ 1048576) :
    Calls Try.prog 82 #[.slice A xs.length c, .slice B ys.length d] w fun e w' => e = .returned (.int .i64 (cmpR xs ys)) ∧ w = w' := by
  by_cases h : xs.length = ys.length
  · have HV : Hid (cmpR xs ys = cmpL xs ys) := hide (by unfold cmpR; rw [if_pos h])
    have HC := hide (slCompare_any A B c d xs ys w hA hB hn hm)
    have hne : ((xs.length : Int) != (ys.length : Int)) = false := by rw [h]; simp
    clear h
    go_enter Try.func82, Try.ntmps82
    go_wp2_with fail
    refine HC.out.mono ?_
    rintro e w1 ⟨rfl, rfl⟩
    go_wp2_with fail
    go_ret
    rw [HV.out]
    exact ⟨rfl, rfl⟩
  · have HV : Hid (cmpR xs ys = (xs.length : Int) - (ys.length : Int)) := hide (by unfold cmpR; rw [if_neg h])
    have hne : ((xs.length : Int) != (ys.length : Int)) = true := by simpa using fun e : (xs.length : Int) = ys.length => h (by omega)
    have hw : IntKind.i64.wrap ((xs.length : Int) - (ys.length : Int)) = (xs.length : Int) - (ys.length : Int) := by rw [IntKind.wrap_i64]; omega
    clear h
    go_enter Try.func82, Try.ntmps82
    go_wp2_with fail
    go_ret
    rw [HV.out]
    exact ⟨rfl, rfl⟩
end Go.Proofs.Ytnjojnnapdhijaa
