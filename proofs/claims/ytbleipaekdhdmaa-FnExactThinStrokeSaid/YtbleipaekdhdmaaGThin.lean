/-
  The walk of the law ThinStroke: the core met with the contracts. Conditions: none.
-/
import Derived.Test.YtbleipaekdhdmaaThin
import Derived.Test.YtbleipaekdhdmaaWThinStroke
namespace Go.Proofs.Ytbleipaekdhdmaa
open Go.RowKit
set_option linter.unusedVariables false

theorem thinTo_small (step : Int) (ps : List (Int × Int)) : (thinTo step ps ps.length).length ≤ ps.length + 1 := by
  unfold thinTo
  have : ∀ (l acc : List (Int × Int)), (l.foldl (thinStep step) acc).length ≤ acc.length + l.length := by
    intro l
    induction l with
    | nil => intro acc; simp
    | cons p t ih =>
      intro acc
      have := ih (thinStep step acc p)
      have h2 : (thinStep step acc p).length ≤ acc.length + 1 := by
        unfold thinStep
        split <;> simp
      simp only [List.foldl_cons, List.length_cons]
      omega
  have := this ((ps.take ps.length).drop 1) [ps.headD (0, 0)]
  simp at this ⊢
  omega
theorem thinR_small (ps : List (Int × Int)) (step : Int) : (thinR ps step).1.length ≤ 1048576 := by
  unfold thinR
  split
  · rename_i h
    split
    · have := (boxS_in h).2.2
      have := thinTo_small step ps
      simp only
      omega
    · simp
  · simp
theorem walk_ThinStroke (w : World) (A0 : Option Addr) (c0 : Nat) (xs0 : List (Int × Int)) (hx0 : ArgP w A0 c0 xs0) (a1 : Int) (i1 : I64 a1) :
    Calls Try.prog 6 #[.slice A0 xs0.length c0, .int .i64 a1] w fun e w' => e = .returned (.bool true) ∧ Below w.heap.size w w' :=
  walk_ThinStroke_of A0 c0 xs0 a1 w hx0 fun hn => ⟨_, _, thinR_small xs0 a1, fun W B d h k => specThinStroke_any _ _ _ _ _ h hn, fun W B d h k => implThinStroke_any _ _ _ _ _ h hn k⟩
end Go.Proofs.Ytbleipaekdhdmaa
