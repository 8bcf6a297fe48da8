/-
  Texts joined: plain lemmas, and the contract of the program's 'joined'. Conditions: the lengths are far below the machine's.
-/
import Derived.Test.YtenbjfkmfcbdiaaDec
namespace Go.Proofs.Ytenbjfkmfcbdiaa
open Go.RowKit
set_option linter.unusedVariables false

/-- the first k texts, with sep between them -/
def joinTo (sep : List UInt8) (l : List (List UInt8)) (k : Nat) : List UInt8 := (List.range k).flatMap fun i => (if i = 0 then [] else sep) ++ l.getD i []
theorem joinTo_zero (sep : List UInt8) (l : List (List UInt8)) : joinTo sep l 0 = [] := rfl
theorem joinTo_next (sep : List UInt8) {l : List (List UInt8)} {k : Nat} {x : List UInt8} (h : l[k]? = some x) : joinTo sep l (k + 1) = joinTo sep l k ++ ((if k = 0 then [] else sep) ++ x) := by
  unfold joinTo
  rw [List.range_succ, List.flatMap_append]
  simp [List.getD, h]
theorem joinTo_first (sep : List UInt8) {l : List (List UInt8)} {x : List UInt8} (h : l[0]? = some x) : joinTo sep l 1 = x := by
  rw [joinTo_next sep h, joinTo_zero]
  simp
theorem joinTo_more (sep : List UInt8) {l : List (List UInt8)} {k : Nat} {x : List UInt8} (h : l[k]? = some x) (hk : k ≠ 0) : joinTo sep l (k + 1) = joinTo sep l k ++ sep ++ x := by
  rw [joinTo_next sep h, if_neg hk, List.append_assoc]
theorem joinTo_le (sep : List UInt8) (l : List (List UInt8)) (s m : Nat) (hs : sep.length ≤ s) (hl : ∀ x ∈ l, x.length ≤ m) : ∀ k, (joinTo sep l k).length ≤ k * (s + m)
  | 0 => by simp [joinTo_zero]
  | k + 1 => by
    have ih := joinTo_le sep l s m hs hl k
    have : joinTo sep l (k + 1) = joinTo sep l k ++ ((if k = 0 then [] else sep) ++ l.getD k []) := by
      unfold joinTo
      rw [List.range_succ, List.flatMap_append]
      simp
    rw [this, List.length_append, List.length_append, Nat.add_mul, Nat.one_mul]
    have h1 : (if k = 0 then [] else sep).length ≤ s := by split <;> simp [hs]
    have h2 : (l.getD k []).length ≤ m := by
      rw [List.getD_eq_getElem?_getD]
      cases hx : l[k]? with
      | none => simp
      | some x => exact hl x (List.mem_of_getElem? hx)
    omega

/-- A contract told from an earlier world on. -/
theorem RetV.since {P : Program} {f : FuncId} {args : Array Value} {B0 : Nat} {W0 W : World} {v : Value} (hc : Calls P f args W (RetV W v)) (h0 : Below B0 W0 W) (hB : B0 ≤ W.heap.size) : Calls P f args W fun e w' => e = .returned v ∧ Below B0 W0 w' :=
  hc.mono fun _ _ h => ⟨h.1, h0.trans (h.2.mono hB)⟩

set_option maxHeartbeats 1000000 in
theorem joined_any (A : Option Addr) (c : Nat) (parts : List (List UInt8)) (sep : List UInt8) (m : Nat) (w : World) (hp : RG strE w A parts) (hn : parts.length ≤ 1048576) (hs : sep.length ≤ 16) (hl : ∀ x ∈ parts, x.length ≤ m) (hm : m ≤ 1048576) :
    Calls Try.prog 59 #[.slice A parts.length c, str sep] w (RetV w (str (joinTo sep parts parts.length))) := by
  have hlen := joinTo_le sep parts 16 m hs hl
  have HL := hide hlen
  have HM := hide hl
  clear hlen hl
  go_enter Try.func59, Try.ntmps59
  go_wp2
  go_loop [5, 10] (fun o i => ∃ k : Nat, k ≤ parts.length ∧ i = .int .i64 k ∧ o = str (joinTo sep parts k)) (fun _ i => parts.length - (intOf i).toNat)
  case atStart => exact ⟨0, Nat.zero_le _, rfl, rfl⟩
  case round =>
    obtain ⟨k, hk, rfl, rfl⟩ := hrel
    by_cases hlt : k < parts.length
    · obtain ⟨b, off, x, rfl, hb, hx, hcc⟩ := hp.row hlt
      have hc : w.cell? ⟨b, off + k, none⟩ = some (str x) := by
        have := hcc 0 _ rfl
        simpa [strE] using this
      have hk1 := HL.out k
      have hx1 := HM.out x (List.mem_of_getElem? hx)
      have hmul : k * (16 + m) ≤ 1048576 * 1048592 := Nat.mul_le_mul (by omega) (by omega)
      by_cases h0 : k = 0
      · have hj := joinTo_first sep (h0 ▸ hx)
        have hj0 : joinTo sep parts k = [] := by rw [h0]; rfl
        have ha : ∀ W : World, (binOp .add 9 (str (joinTo sep parts k)) (str x)).run Try.prog W = .ok (str (joinTo sep parts (k + 1))) W := fun W => by
          have h1 : joinTo sep parts (k + 1) = joinTo sep parts k ++ x := by rw [hj0, h0]; exact hj
          rw [h1]
          exact str_add W _ _ _ (by omega)
        have hg : ¬ (0 : Int) < (k : Int) := by omega
        clear hj hj0 h0 hx hcc
        go_wp2_with fail
        go_round
        case rel => exact ⟨k + 1, by omega, by go_num, rfl⟩
        case measure => simp [intOf]; omega
      · have hj := joinTo_more sep hx h0
        have ha1 : ∀ W : World, (binOp .add 9 (str (joinTo sep parts k)) (str sep)).run Try.prog W = .ok (str (joinTo sep parts k ++ sep)) W := fun W => str_add W _ _ _ (by omega)
        have ha2 : ∀ W : World, (binOp .add 9 (str (joinTo sep parts k ++ sep)) (str x)).run Try.prog W = .ok (str (joinTo sep parts (k + 1))) W := fun W => by
          rw [hj]
          exact str_add W _ _ _ (by rw [List.length_append]; omega)
        have hg : (0 : Int) < (k : Int) := by omega
        clear hj h0 hx hcc
        go_wp2_with fail
        go_round
        case rel => exact ⟨k + 1, by omega, by go_num, rfl⟩
        case measure => simp [intOf]; omega
    · obtain rfl : k = parts.length := by omega
      go_wp2_with fail
      go_ret
      exact ⟨rfl, Below.refl _ _⟩
end Go.Proofs.Ytenbjfkmfcbdiaa
