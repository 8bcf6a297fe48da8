/-
  Contract: slices.Delete of one row of a code of the call's own. Conditions: none beyond the lengths.
-/
import Derived.Test.YtpgpchklmdhldaaRen
import Derived.Shelf.SlicesE.Delete
import Derived.Ground.SlgnProg
import Derived.Shelf.SlGeneric
import Derived.Sort.OwnSortedInts
namespace Go.Proofs
open Go.Shelf
def Try.delC_ren : Go.Shelf.Ren := ⟨fun | 45 => 81 | n => n, fun | 22 => 22 | 23 => 33 | 3 => 3 | 4 => 4 | 0 => 0 | n => n, fun | n => n⟩
theorem Try.delC : Go.Proofs.SlLaysE.n45 Try.prog Try.delC_ren := {
  mixed := by kernel_rfl
  f45 := ⟨Try.f81.name, by decide, Try.func81.trans (congrArg some (by kernel_rfl))⟩
  t0 := Try.underlying0
  a0 := Try.isAgg0
  z0 := Try.sizeOf0
  v0 := Try.zeroValue0
  t3 := Try.underlying3
  a3 := Try.isAgg3
  z3 := Try.sizeOf3
  v3 := Try.zeroValue3
  t4 := Try.underlying4
  a4 := Try.isAgg4
  z4 := Try.sizeOf4
  v4 := Try.zeroValue4
  t22 := Try.underlying22
  a22 := Try.isAgg22
  z22 := Try.sizeOf22
  v22 := Try.zeroValue22
  a23 := Try.isAgg33
  z23 := Try.sizeOf33 }
end Go.Proofs
namespace Go.Proofs.Ytpgpchklmdhldaa
open Go.RowKit Go.Sort Go.Lib
set_option linter.unusedVariables false

def encHd (h : Hd) : Value := .slice h.A h.n h.c
instance : Inhabited Hd := ⟨⟨none, 0, 0⟩⟩
theorem heap_putRow {α : Type} [Inhabited α] (enc : α → Value) {w : World} {g n : Nat} {cur : Array Value} {e : TypeId} {fr : Nat × Nat} (d : Array α) (hb : w.heap[g]? = some (.cells cur e fr)) :
    (putRow enc (Sort.ahead w n) g 0 d).heap[g]? = some (.cells (putCells enc 0 d cur) e fr) := by
  simp [putRow, mapBlock, Sort.ahead, Array.getElem?_modify, hb, onCells]
theorem grownBy_putRow {α : Type} [Inhabited α] (enc : α → Value) {w : World} {g n : Nat} (d : Array α) : w.grownBy (putRow enc (Sort.ahead w n) g 0 d) (some g) := by
  refine ⟨rfl, rfl, rfl, by simp [putRow, mapBlock, Sort.ahead], fun k hk hne => ?_⟩
  have : g ≠ k := fun e => hne (by rw [e])
  simp [putRow, mapBlock, Sort.ahead, Array.getElem?_modify, this]
theorem take_putCells {α : Type} [Inhabited α] (enc : α → Value) (cur : Array Value) (ts : List α) (m : Nat) (hm : m ≤ ts.length) (h : ts.length ≤ cur.size) : (putCells enc 0 ts.toArray cur).toList.take m = (ts.take m).map enc := by
  apply List.ext_getElem?
  intro j
  by_cases hj : j < m
  · rw [List.getElem?_take_of_lt hj, Array.getElem?_toList, List.getElem?_map, List.getElem?_take_of_lt hj]
    have hj2 : j < ts.length := by omega
    simp [putCells, hj2, show j < cur.size by omega]
  · rw [List.getElem?_take_eq_none (by omega), List.getElem?_eq_none (by simp; omega)]
theorem flat_encHd (hs : List Hd) : hs.flatMap hdE.cells = hs.map encHd := by
  induction hs with
  | nil => rfl
  | cons h t ih =>
    rw [List.flatMap_cons, ih]
    rfl
theorem erase_at {α : Type} {l : List α} {i k : Nat} (hi : i ≤ l.length) : (l.take i ++ l.drop (i + 1))[k]? = if k < i then l[k]? else l[k + 1]? := by
  rw [List.getElem?_append]
  have hl : (l.take i).length = i := by rw [List.length_take]; omega
  rw [hl]
  split
  · rename_i h
    rw [List.getElem?_take_of_lt h]
  · rename_i h
    rw [List.getElem?_drop]
    congr 1
    omega
set_option maxRecDepth 100000 in
theorem delete_any (A : Option Addr) (c base top i : Nat) (code : List (List Int)) (w : World) (h : OwnC w base top A c code) (hi : i < code.length) (hn : code.length ≤ 1048576) :
    Calls Try.prog 81 #[.slice A code.length c, .int .i64 (i : Int), .int .i64 ((i : Int) + 1)] w fun e w' => e = .returned (.slice A (code.take i ++ code.drop (i + 1)).length c) ∧ OwnC w' base top A c (code.take i ++ code.drop (i + 1)) ∧ w.grownBy w' (blk A) := by
  obtain ⟨hs, h1, h2, h3, h4, h5⟩ := h
  have hI : ∀ {base' : Nat} {A' : Option Addr} {c' : Nat} {ys : List Int}, OwnI w base' A' c' ys → blk A' = none ∨ blk A' ≠ blk A := fun hoo => by
    rw [← intE_own] at hoo
    exact Own.own_ne hoo h1 (by decide)
  have h1' := h1
  rcases h1.2 with ⟨hv, hz⟩ | ⟨g, cap, cur, hv, hb, hh, hnc, hcm, hcs, ht⟩
  · omega
  · injection hv with hA hn' hc'
    subst hA hc'
    have hsz : hdE.size = 1 := rfl
    rw [hsz, Nat.mul_one] at hcs
    rw [hsz, Nat.mul_one] at ht
    have hH : Holds encHd w g 0 hs.toArray := by
      intro j hj
      have hj' : j < hs.length := by simpa using hj
      refine ⟨?_, by simp [World.frozen?, hh]⟩
      have h6 : (cur.toList.take hs.length)[j]? = (hs.map encHd)[j]? := by rw [ht, flat_encHd]
      rw [List.getElem?_take_of_lt hj'] at h6
      simp only [World.cell?, hh, Nat.zero_add]
      simp only [Option.isSome_none, Bool.false_eq_true, if_false]
      rw [← Array.getElem?_toList, h6]
      simp [hj']
    obtain ⟨i0, hi0, hz0, hz1, hz2⟩ := info_parts hdE.inf
    have hcall := AnyE.slices_Delete Try.delC encHd (fun x => rfl) ⟨none, 0, 0⟩ (fun w => by kernel_rfl) i0 hi0 hz1 g 0 c i (i + 1) hs.toArray w hH (by simpa using hnc) (by simpa [maxLen] using hcm) (by omega) (by simp; omega)
    simp only [List.size_toArray] at hcall
    rw [h3] at hcall
    refine hcall.mono ?_
    rintro e w' ⟨rfl, q, rfl⟩
    have hlen : (code.take i ++ code.drop (i + 1)).length = code.length - (i + 1 - i) := by
      rw [List.length_append, List.length_take, List.length_drop]
      omega
    have hlen2 : (hs.take i ++ hs.drop (i + 1)).length = code.length - (i + 1 - i) := by
      rw [List.length_append, List.length_take, List.length_drop]
      omega
    have hg := grownBy_putRow encHd (w := w) (g := g) (n := q) (hs.toArray.toList.take i ++ hs.toArray.toList.drop (i + 1) ++ List.replicate (i + 1 - i) (⟨none, 0, 0⟩ : Hd)).toArray
    refine ⟨by rw [hlen], ⟨hs.take i ++ hs.drop (i + 1), ?_, h2, by rw [hlen, hlen2], fun k hd xs e1 e2 => ?_, fun a b hd hd' e1 e2 hab => ?_⟩, hg⟩
    · refine ⟨by rw [hdE.flen], .inr ⟨g, c, _, rfl, hb, heap_putRow encHd _ hh, by rw [hlen2]; omega, hcm, by rw [hsz, Nat.mul_one]; simp [putCells, hcs], ?_⟩⟩
      rw [hsz, Nat.mul_one, flat_encHd, take_putCells encHd cur _ _ (by simp) (by simp; omega)]
      congr 1
      rw [List.take_append_of_le_length (Nat.le_refl _), List.take_length]
    · rw [erase_at (by omega)] at e1 e2
      split at e1
      · rename_i hk
        rw [if_pos hk] at e2
        obtain ⟨m1, m2, m3⟩ := h4 k hd xs e1 e2
        exact ⟨m1, m2.grown hg (hI m2), m3⟩
      · rename_i hk
        rw [if_neg hk] at e2
        obtain ⟨m1, m2, m3⟩ := h4 _ hd xs e1 e2
        exact ⟨m1, m2.grown hg (hI m2), m3⟩
    · rw [erase_at (by omega)] at e1 e2
      split at e1 <;> split at e2 <;> exact h5 _ _ hd hd' e1 e2 (by omega)
end Go.Proofs.Ytpgpchklmdhldaa
