/-
  Plain lemmas: the table of common crossings. Conditions: none; nothing of the program is named here.
-/
import Derived.Test.YtpgpchklmdhldaaMoveMath
namespace Go.Proofs.Ytpgpchklmdhldaa
open Go.RowKit
set_option linter.unusedVariables false

/-- one more in row a, column b -/
def bump (a b : Nat) (t : List (List Int)) : List (List Int) := t.set a ((t.getD a []).set b ((t.getD a []).getD b 0 + 1))
/-- a square table of numbers from 0 to m -/
def Sq (n : Nat) (m : Int) (t : List (List Int)) : Prop := t.length = n ∧ ∀ r ∈ t, r.length = n ∧ ∀ v ∈ r, 0 ≤ v ∧ v ≤ m
theorem Sq.mono {n : Nat} {m m' : Int} {t : List (List Int)} (h : Sq n m t) (hm : m ≤ m') : Sq n m' t := ⟨h.1, fun r hr => ⟨(h.2 r hr).1, fun v hv => by have := (h.2 r hr).2 v hv; omega⟩⟩
theorem Sq.bump {n : Nat} {m : Int} {t : List (List Int)} {a b : Nat} (h : Sq n m t) (h0 : 0 ≤ m) (ha : a < n) (hb : b < n) : Sq n (m + 1) (bump a b t) := by
  have hta : t.getD a [] ∈ t := by
    rw [List.getD_eq_getElem?_getD, List.getElem?_eq_getElem (by rw [h.1]; exact ha)]
    exact List.getElem_mem _
  obtain ⟨g1, g2⟩ := h.2 _ hta
  refine ⟨by unfold Go.Proofs.Ytpgpchklmdhldaa.bump; rw [List.length_set]; exact h.1, fun r hr => ?_⟩
  unfold Go.Proofs.Ytpgpchklmdhldaa.bump at hr
  rcases List.mem_or_eq_of_mem_set hr with hr | rfl
  · exact ⟨(h.2 r hr).1, fun v hv => by have := (h.2 r hr).2 v hv; omega⟩
  · refine ⟨by rw [List.length_set]; exact g1, fun v hv => ?_⟩
    rcases List.mem_or_eq_of_mem_set hv with hv | rfl
    · have := g2 v hv
      omega
    · have hm : (t.getD a []).getD b 0 ∈ t.getD a [] := by
        have hlb : b < (t.getD a []).length := by rw [g1]; exact hb
        have e : (t.getD a []).getD b 0 = (t.getD a [])[b] := getD_at (List.getElem?_eq_getElem hlb)
        rw [e]
        exact List.getElem_mem hlb
      have := g2 _ hm
      omega
theorem bump_at {t : List (List Int)} {a b : Nat} {xs : List Int} {v : Int} (h : t[a]? = some xs) (hv : xs[b]? = some v) : bump a b t = t.set a (xs.set b (v + 1)) := by
  unfold bump
  rw [getD_row h, getD_at hv]
/-- the curve of an element -/
def curveOf (code : List (List Int)) (x : Int) : Nat := (plc code x).1.toNat
def meetS (a b : Nat) (t : List (List Int)) : List (List Int) := if a = b then bump a b t else bump b a (bump a b t)
def meetT (code : List (List Int)) : Nat → List (List Int)
  | 0 => List.replicate code.length (List.replicate code.length 0)
  | k + 1 => meetS (curveOf code ((k : Int) + 1)) (curveOf code (-((k : Int) + 1))) (meetT code k)
theorem meetS_sq {n a b : Nat} {m : Int} {t : List (List Int)} (h : Sq n m t) (h0 : 0 ≤ m) (ha : a < n) (hb : b < n) : Sq n (m + 2) (meetS a b t) := by
  unfold meetS
  split
  · exact (h.bump h0 ha hb).mono (by omega)
  · exact ((h.bump h0 ha hb).bump (by omega) hb ha).mono (by omega)
theorem curveOf_lt {code : List (List Int)} (hv : validC code = true) {x : Int} (hx : x ∈ code.flatten) : ∃ (i k : Nat) (xs : List Int), plc code x = ((i : Int), (k : Int)) ∧ curveOf code x = i ∧ i < code.length ∧ code[i]? = some xs ∧ xs[k]? = some x := by
  obtain ⟨i, k, xs, hi, hk, hp⟩ := apart_of_mem (valid_apart' hv) hx
  have e : plc code x = ((i : Int), (k : Int)) := by unfold plc; rw [hp]; rfl
  refine ⟨i, k, xs, e, ?_, (List.getElem?_eq_some_iff.1 hi).1, hi, hk⟩
  unfold curveOf
  rw [e]
  simp
theorem valid_at2 {code : List (List Int)} (hv : validC code = true) {k : Nat} (hk : k < sumLen code / 2) : ((k : Int) + 1) ∈ code.flatten ∧ (-((k : Int) + 1)) ∈ code.flatten :=
  ⟨valid_has hv (by omega) (by omega) (by omega), valid_has hv (by omega) (by omega) (by omega)⟩
theorem meetT_sq {code : List (List Int)} (hv : validC code = true) : ∀ k, k ≤ sumLen code / 2 → Sq code.length (2 * (k : Int)) (meetT code k)
  | 0, _ => by
    refine ⟨by simp [meetT], fun r hr => ?_⟩
    have := List.eq_of_mem_replicate hr
    subst this
    exact ⟨by simp, fun v hv => by have := List.eq_of_mem_replicate hv; omega⟩
  | k + 1, hk => by
    have ih := meetT_sq hv k (by omega)
    obtain ⟨h1, h2⟩ := valid_at2 hv (k := k) (by omega)
    obtain ⟨i, _, _, _, e1, l1, _⟩ := curveOf_lt hv h1
    obtain ⟨j, _, _, _, e2, l2, _⟩ := curveOf_lt hv h2
    unfold meetT
    rw [e1, e2]
    exact (meetS_sq ih (by omega) l1 l2).mono (by omega)
theorem sq_sum {n : Nat} {m : Int} : ∀ {t : List (List Int)}, (∀ r ∈ t, r.length = n ∧ ∀ v ∈ r, 0 ≤ v ∧ v ≤ m) → sumLen t = t.length * n
  | [], _ => by simp [sumLen]
  | r :: t, h => by
    have ih := sq_sum (n := n) (m := m) (t := t) (fun r hr => h r (List.mem_cons_of_mem _ hr))
    have h1 := (h r List.mem_cons_self).1
    unfold sumLen at ih ⊢
    rw [List.map_cons, List.sum_cons, ih, h1, List.length_cons, Nat.succ_mul]
    omega
def meetR (code : List (List Int)) : List (List Int) × Int := if validC code = true then (meetT code (sumLen code / 2), 0) else ([], 1)
theorem meetR_len (code : List (List Int)) : (meetR code).1.length + sumLen (meetR code).1 ≤ 1048576 := by
  unfold meetR
  split
  · rename_i hv
    obtain ⟨hs1, hs2, hs3⟩ := valid_sum hv
    obtain ⟨h1, h2⟩ := meetT_sq hv _ (Nat.le_refl _)
    have h3 := sq_sum h2
    have h4 : (meetT code (sumLen code / 2)).length * code.length ≤ 40 * 40 := Nat.mul_le_mul (by omega) hs1
    dsimp only
    omega
  · simp [sumLen]
end Go.Proofs.Ytpgpchklmdhldaa
