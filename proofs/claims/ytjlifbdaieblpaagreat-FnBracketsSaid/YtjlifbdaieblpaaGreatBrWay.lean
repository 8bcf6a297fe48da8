/-
  Plain law: the ways to smooth all crossings, and the sum over them. Conditions: a panel's sides; at most eight crossings.
-/
import Derived.Test.YtjlifbdaieblpaaGreatBrMath
import Derived.Test.YtjlifbdaieblpaaGreatPntMath
import Derived.Test.YtjlifbdaieblpaaGreatCrC
import Derived.Test.YtjlifbdaieblpaaGreatSm5
namespace Go.Proofs.YtjlifbdaieblpaaGreat
open Go.RowKit
set_option linter.unusedVariables false

/-- the number of the inner point of the crossing i -/
def psN (xs : List Int) (i : Nat) : Nat := ((zTo xs xs.length).getD i 0).toNat
theorem psN_at {xs : List Int} {i : Nat} (h : i < crN xs) : psN xs i < xs.length ∧ (zTo xs xs.length)[i]? = some ((psN xs i : Nat) : Int) := by
  obtain ⟨n, h1, h2⟩ := crN_at h
  have e : psN xs i = n := by
    unfold psN
    rw [List.getD_eq_getElem?_getD, h2]
    simp
  rw [e]
  exact ⟨h1, h2⟩
/-- the kind that the way s lays at the crossing i -/
def kdN (wd : Int) (xs : List Int) (s i : Nat) : Int := kdB (pntX wd (psN xs i)) (decide (s / 2 ^ i % 2 = 1))
/-- the breaks after i crossings of the way s -/
def wayT (wd : Int) (xs : List Int) (s i : Nat) (ys : List Int) : List Int := updTo (psN xs) (kdN wd xs s) i ys
theorem wayT_next (wd : Int) (xs : List Int) (s i : Nat) (ys : List Int) : wayT wd xs s (i + 1) ys = (wayT wd xs s i ys).set (psN xs i) (kdB (pntX wd (psN xs i)) (decide (s / 2 ^ i % 2 = 1))) := rfl
theorem wayT_len (wd : Int) (xs : List Int) (s i : Nat) (ys : List Int) : (wayT wd xs s i ys).length = ys.length := updTo_len _ _ _ _
/-- like xs off the crossings -/
def OffC (xs ys : List Int) : Prop := ys.length = xs.length ∧ ∀ j, (∀ k, k < crN xs → psN xs k ≠ j) → ys[j]? = xs[j]?
theorem OffC.same (xs : List Int) : OffC xs xs := ⟨rfl, fun _ _ => rfl⟩
theorem OffC.way {wd : Int} {xs ys : List Int} {s : Nat} (h : OffC xs ys) : OffC xs (wayT wd xs s (crN xs) ys) :=
  ⟨by rw [wayT_len]; exact h.1, fun j hj => by unfold wayT; rw [updTo_off hj]; exact h.2 j hj⟩
theorem OffC.eq {wd : Int} {xs ys : List Int} {s : Nat} (h : OffC xs ys) : wayT wd xs s (crN xs) ys = wayT wd xs s (crN xs) xs :=
  updTo_eq h.1 h.2
/-- the summand of the way s, and the sums -/
noncomputable def wayM (wd ht : Int) (xs : List Int) (s : Nat) : Nat := (curL wd ht (wayT wd xs s (crN xs) xs)).length - 1
noncomputable def wayP (wd ht : Int) (xs : List Int) (s : Nat) : Int × List Int := summP (powTo s (crN xs)) (wayM wd ht xs s)
noncomputable def brTo (wd ht : Int) (xs : List Int) : Nat → Int × List Int
  | 0 => (0, [])
  | s + 1 => addP (brTo wd ht xs s).1 (brTo wd ht xs s).2 (wayP wd ht xs s).1 (wayP wd ht xs s).2
theorem brTo_next (wd ht : Int) (xs : List Int) (s : Nat) : addP (brTo wd ht xs s).1 (brTo wd ht xs s).2 (wayP wd ht xs s).1 (wayP wd ht xs s).2 = brTo wd ht xs (s + 1) := rfl
theorem BK.mono {K K' : Int} {q : Int × List Int} (h : BK K q) (hk : K ≤ K') : BK K' q := ⟨by have := h.1; omega, by have := h.2.1; omega, by have := h.2.2; omega⟩
theorem cur_le {wd ht : Int} {xs : List Int} (hs : Sz wd ht) : (curL wd ht xs).length ≤ 256 := by
  have h1 := (trInv_all (xs := xs) hs).cnt
  have h2 := nSeg_int hs
  simp only at h1
  omega
theorem wayM_le {wd ht : Int} {xs : List Int} (hs : Sz wd ht) (s : Nat) : wayM wd ht xs s ≤ 255 := by
  have h := cur_le (xs := wayT wd xs s (crN xs) xs) hs
  unfold wayM
  omega
theorem wayP_bk {wd ht : Int} {xs : List Int} (hs : Sz wd ht) (h8 : crN xs ≤ 8) (s : Nat) : BK 1000 (wayP wd ht xs s) := by
  have h1 := powTo_b s (crN xs)
  have h2 := wayM_le (xs := xs) hs s
  exact (summ_bk (P := 8) (by omega) _).mono (by omega)
theorem brTo_bk {wd ht : Int} {xs : List Int} (hs : Sz wd ht) (h8 : crN xs ≤ 8) : ∀ s, BK 1000 (brTo wd ht xs s)
  | 0 => by unfold BK brTo; simp
  | s + 1 => addP_bk (brTo_bk hs h8 s) (wayP_bk hs h8 s)
end Go.Proofs.YtjlifbdaieblpaaGreat
