/-
  Texts joined: plain lemmas, and the contract of the program's 'joined'. Conditions: the lengths are far below the machine's.
-/
import Derived.Test.YtocellbhpjiioaaDec
namespace Go.Proofs.Ytocellbhpjiioaa
open Go.RowKit
set_option linter.unusedVariables false

/-- the first k texts, with sep between them -/
def joinTo (sep : List UInt8) (l : List (List UInt8)) (k : Nat) : List UInt8 := (List.range k).flatMap fun i => (if i = 0 then [] else sep) ++ l.getD i []
theorem joinTo_zero (sep : List UInt8) (l : List (List UInt8)) : joinTo sep l 0 = [] := rfl
theorem joinTo_next (sep : List UInt8) {l : List (List UInt8)} {k : Nat} {x : List UInt8} (h : l[k]? = some x) : joinTo sep l (k + 1) = joinTo sep l k ++ ((if k = 0 then [] else sep) ++ x) := by
  unfold joinTo
  rw [List.range_succ, List.flatMap_append]
  simp [List.getD, h]
theorem joinTo_first (sep : List UInt8) {l : List (List UInt8)} {x : List UInt8} (h : l[0]? = some x) : joinTo sep l 1 = x := by
  rw [joinTo_next sep h, joinTo_zero]
  simp
theorem joinTo_more (sep : List UInt8) {l : List (List UInt8)} {k : Nat} {x : List UInt8} (h : l[k]? = some x) (hk : k ≠ 0) : joinTo sep l (k + 1) = joinTo sep l k ++ sep ++ x := by
  rw [joinTo_next sep h, if_neg hk, List.append_assoc]
theorem joinTo_le (sep : List UInt8) (l : List (List UInt8)) (s m : Nat) (hs : sep.length ≤ s) (hl : ∀ x ∈ l, x.length ≤ m) : ∀ k, (joinTo sep l k).length ≤ k * (s + m)
  | 0 => by simp [joinTo_zero]
  | k + 1 => by
    have ih := joinTo_le sep l s m hs hl k
    have : joinTo sep l (k + 1) = joinTo sep l k ++ ((if k = 0 then [] else sep) ++ l.getD k []) := by
      unfold joinTo
      rw [List.range_succ, List.flatMap_append]
      simp
    rw [this, List.length_append, List.length_append, Nat.add_mul, Nat.one_mul]
    have h1 : (if k = 0 then [] else sep).length ≤ s := by split <;> simp [hs]
    have h2 : (l.getD k []).length ≤ m := by
      rw [List.getD_eq_getElem?_getD]
      cases hx : l[k]? with
      | none => simp
      | some x => exact hl x (List.mem_of_getElem? hx)
    omega

/-- A contract told from an earlier world on. -/
theorem RetV.since {P : Program} {f : FuncId} {args : Array Value} {B0 : Nat} {W0 W : World} {v : Value} (hc : Calls P f args W (RetV W v)) (h0 : Below B0 W0 W) (hB : B0 ≤ W.heap.size) : Calls P f args W fun e w' => e = .returned v ∧ Below B0 W0 w' :=
  hc.mono fun _ _ h => ⟨h.1, h0.trans (h.2.mono hB)⟩

end Go.Proofs.Ytocellbhpjiioaa
