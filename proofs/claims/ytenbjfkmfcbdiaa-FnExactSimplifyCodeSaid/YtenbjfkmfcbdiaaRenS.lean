/-
  Contracts: l15Size, l15Rename. Conditions: none beyond the lengths.
-/
import Derived.Test.YtenbjfkmfcbdiaaRen
import Derived.Test.YtenbjfkmfcbdiaaCodeIn
namespace Go.Proofs.Ytenbjfkmfcbdiaa
open Go.RowKit
set_option linter.unusedVariables false

theorem l00Max_any (a b : Int) (w : World) : Calls Try.prog 113 #[.int .i64 a, .int .i64 b] w fun e w' => e = .returned (.int .i64 (max a b)) ∧ w = w' := by
  by_cases hab : b < a
  · have HV : Hid (max a b = a) := hide (by omega)
    go_enter Try.func113, Try.ntmps113
    go_wp2
    go_ret
    rw [HV.out]
    exact ⟨rfl, rfl⟩
  · have HV : Hid (max a b = b) := hide (by omega)
    go_enter Try.func113, Try.ntmps113
    go_wp2
    go_ret
    rw [HV.out]
    exact ⟨rfl, rfl⟩
theorem l15Size_any (x : Int) (w : World) (h1 : -9223372036854775808 < x) (h2 : x ≤ 9223372036854775807) :
    Calls Try.prog 107 #[.int .i64 x] w fun e w' => e = .returned (.int .i64 (crI x + 1)) ∧ w = w' := by
  have wn : IntKind.i64.wrap (-x) = -x := by rw [IntKind.wrap_i64]; omega
  have HV : Hid (max x (-x) = crI x + 1) := hide (by unfold crI; omega)
  go_enter Try.func107, Try.ntmps107
  go_wp2_with (go_at_call 113; refine (l00Max_any _ _ _).mono ?_; rintro e w' ⟨rfl, rfl⟩)
  go_ret
  rw [HV.out]
  exact ⟨rfl, rfl⟩
theorem run_make_names (n : Nat) (hn : n ≤ 240) (W : World) :
    (Instr.makeSlice 31 (.int .i64 ((n : Int) + 1)) (.int .i64 ((n : Int) + 1))).run Try.prog W = .ok (.slice (some ⟨W.heap.size, 0, none⟩) (n + 1) (n + 1)) (W.alloc (.cells (madeCells intE.z.cells ((n + 1) * intE.size)) 2)) := by
  have := intE.run_make (n + 1) (by simp [intE]; omega) (by omega) W
  rw [show ((n + 1 : Nat) : Int) = (n : Int) + 1 by omega] at this
  exact this
theorem intE_at {w : World} {base : Nat} {A : Option Addr} {c : Nat} {l : List Int} (h : Own intE w base A c l) {k : Nat} {v : Int} (hv : l[k]? = some v) :
    ∃ g, A = some ⟨g, 0, none⟩ ∧ base ≤ g ∧ g < w.heap.size ∧ w.cell? ⟨g, k, none⟩ = some (.int .i64 v) ∧ w.frozen? ⟨g, k, none⟩ = false ∧ ∀ y, Own intE (w.setCell ⟨g, k, none⟩ (.int .i64 y)) base A c (l.set k y) ∧ w.grownBy (w.setCell ⟨g, k, none⟩ (.int .i64 y)) (some g) := by
  have hk := (List.getElem?_eq_some_iff.1 hv).1
  obtain ⟨g, x, rfl, hb, hs, hx, hc, hf⟩ := h.row hk
  rw [hv] at hx
  injection hx with hx
  subst hx
  have hc0 := hc 0 _ rfl
  have e0 : k * intE.size + 0 = k := by simp [intE]
  rw [e0] at hc0
  refine ⟨g, rfl, hb, hs, hc0, hf k, fun y => ?_⟩
  have hp := h.put (k := k) (j := 0) (x := v) (y := y) (u := .int .i64 y) hv (by simp [intE]) rfl
  rw [e0] at hp
  exact hp
theorem OwnC.setGrown {w w' : World} {base top : Nat} {A : Option Addr} {c : Nat} {code : List (List Int)} {row : Option Nat} (h : OwnC w base top A c code) (hg : w.grownBy w' row) (hs : top ≤ w.heap.size) (hr : ∀ b, base ≤ b → b < top → some b ≠ row) : OwnC w' base top A c code :=
  h.keep fun b h1 h2 => hg.block b (by omega) (hr b h1 h2)
theorem OwnI.new_ (w : World) {base : Nat} (n : Nat) (xs : List Int) (cs : Array Value) (hn : n = w.heap.size) (hcs : cs.toList = xs.map (Value.int .i64)) (hb : base ≤ w.heap.size) (hm : xs.length ≤ maxLen) :
    OwnI (w.alloc (.cells cs 2)) base (some ⟨n, 0, none⟩) xs.length xs := by
  subst hn
  exact OwnI.new w xs cs hcs hb hm
theorem ren_name {code : List (List Int)} {i j : Nat} {xs : List Int} {x v : Int} (h : code[i]? = some xs) (hx : xs[j]? = some x) (hv : (numsL (upTo code i (j + 1))).lookup (crI x) = some v) : numF (numsL code.flatten) (crI x) = some v := by
  obtain ⟨t, ht⟩ := upTo_prefix h hx
  unfold numF
  rw [ht, show upTo code i j ++ x :: t = upTo code i (j + 1) ++ t by rw [upTo_next h hx, List.append_assoc]; rfl]
  exact numsL_keep hv

end Go.Proofs.Ytenbjfkmfcbdiaa
