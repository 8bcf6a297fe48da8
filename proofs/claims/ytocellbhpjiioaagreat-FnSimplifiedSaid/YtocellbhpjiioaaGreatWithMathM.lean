/-
  Contracts: l15Size, l15Rename. Conditions: none beyond the lengths.
  Contracts: slices.Index and slices.Contains at []int64. Conditions: none beyond the lengths.
  Plain lemmas: a valid code without some crossings is valid. Conditions: none; nothing of the program is named here.
-/
import Derived.Test.YtocellbhpjiioaaGreatCopyM
import Derived.Test.YtocellbhpjiioaaGreatCodeInM
import Derived.Test.YtocellbhpjiioaaGreatMoveMathM
namespace Go.Proofs.YtocellbhpjiioaaGreat
open Go.RowKit
set_option linter.unusedVariables false

theorem l00Max_any (a b : Int) (w : World) : Calls Tryz.prog 87 #[.int .i64 a, .int .i64 b] w fun e w' => e = .returned (.int .i64 (max a b)) ∧ w = w' := by
  by_cases hab : b < a
  · have HV : Hid (max a b = a) := hide (by omega)
    go_enter Tryz.func87, Tryz.ntmps87
    go_wp2
    go_ret
    rw [HV.out]
    exact ⟨rfl, rfl⟩
  · have HV : Hid (max a b = b) := hide (by omega)
    go_enter Tryz.func87, Tryz.ntmps87
    go_wp2
    go_ret
    rw [HV.out]
    exact ⟨rfl, rfl⟩
theorem l15Size_any (x : Int) (w : World) (h1 : -9223372036854775808 < x) (h2 : x ≤ 9223372036854775807) :
    Calls Tryz.prog 79 #[.int .i64 x] w fun e w' => e = .returned (.int .i64 (crI x + 1)) ∧ w = w' := by
  have wn : IntKind.i64.wrap (-x) = -x := by rw [IntKind.wrap_i64]; omega
  have HV : Hid (max x (-x) = crI x + 1) := hide (by unfold crI; omega)
  go_enter Tryz.func79, Tryz.ntmps79
  go_wp2_with (go_at_call 87; refine (l00Max_any _ _ _).mono ?_; rintro e w' ⟨rfl, rfl⟩)
  go_ret
  rw [HV.out]
  exact ⟨rfl, rfl⟩
theorem run_make_names (n : Nat) (hn : n ≤ 240) (W : World) :
    (Instr.makeSlice 65 (.int .i64 ((n : Int) + 1)) (.int .i64 ((n : Int) + 1))).run Tryz.prog W = .ok (.slice (some ⟨W.heap.size, 0, none⟩) (n + 1) (n + 1)) (W.alloc (.cells (madeCells intE.z.cells ((n + 1) * intE.size)) 2)) := by
  have := intE.run_make (n + 1) (by simp [intE]; omega) (by omega) W
  rw [show ((n + 1 : Nat) : Int) = (n : Int) + 1 by omega] at this
  exact this
theorem intE_at {w : World} {base : Nat} {A : Option Addr} {c : Nat} {l : List Int} (h : Own intE w base A c l) {k : Nat} {v : Int} (hv : l[k]? = some v) :
    ∃ g, A = some ⟨g, 0, none⟩ ∧ base ≤ g ∧ g < w.heap.size ∧ w.cell? ⟨g, k, none⟩ = some (.int .i64 v) ∧ w.frozen? ⟨g, k, none⟩ = false ∧ ∀ y, Own intE (w.setCell ⟨g, k, none⟩ (.int .i64 y)) base A c (l.set k y) ∧ w.grownBy (w.setCell ⟨g, k, none⟩ (.int .i64 y)) (some g) := by
  have hk := (List.getElem?_eq_some_iff.1 hv).1
  obtain ⟨g, x, rfl, hb, hs, hx, hc, hf⟩ := h.row hk
  rw [hv] at hx
  injection hx with hx
  subst hx
  have hc0 := hc 0 _ rfl
  have e0 : k * intE.size + 0 = k := by simp [intE]
  rw [e0] at hc0
  refine ⟨g, rfl, hb, hs, hc0, hf k, fun y => ?_⟩
  have hp := h.put (k := k) (j := 0) (x := v) (y := y) (u := .int .i64 y) hv (by simp [intE]) rfl
  rw [e0] at hp
  exact hp
theorem OwnC.setGrown {w w' : World} {base top : Nat} {A : Option Addr} {c : Nat} {code : List (List Int)} {row : Option Nat} (h : OwnC w base top A c code) (hg : w.grownBy w' row) (hs : top ≤ w.heap.size) (hr : ∀ b, base ≤ b → b < top → some b ≠ row) : OwnC w' base top A c code :=
  h.keep fun b h1 h2 => hg.block b (by omega) (hr b h1 h2)
theorem OwnI.new_ (w : World) {base : Nat} (n : Nat) (xs : List Int) (cs : Array Value) (hn : n = w.heap.size) (hcs : cs.toList = xs.map (Value.int .i64)) (hb : base ≤ w.heap.size) (hm : xs.length ≤ maxLen) :
    OwnI (w.alloc (.cells cs 2)) base (some ⟨n, 0, none⟩) xs.length xs := by
  subst hn
  exact OwnI.new w xs cs hcs hb hm
theorem ren_name {code : List (List Int)} {i j : Nat} {xs : List Int} {x v : Int} (h : code[i]? = some xs) (hx : xs[j]? = some x) (hv : (numsL (upTo code i (j + 1))).lookup (crI x) = some v) : numF (numsL code.flatten) (crI x) = some v := by
  obtain ⟨t, ht⟩ := upTo_prefix h hx
  unfold numF
  rw [ht, show upTo code i j ++ x :: t = upTo code i (j + 1) ++ t by rw [upTo_next h hx, List.append_assoc]; rfl]
  exact numsL_keep hv

end Go.Proofs.YtocellbhpjiioaaGreat

namespace Go.Proofs.YtocellbhpjiioaaGreat
open Go.RowKit
set_option linter.unusedVariables false

set_option maxHeartbeats 1000000 in
theorem slIndex_any (A : Option Addr) (c : Nat) (xs : List Int) (n : Int) (w : World) (h : RI w A xs) (hn : xs.length ≤ 1048576) :
    Calls Tryz.prog 85 #[.slice A xs.length c, .int .i64 n] w (fun e w' => (∃ k : Int, e = .returned (.int .i64 k) ∧ decide (0 ≤ k) = hasB xs n) ∧ w = w') := by
  go_enter Tryz.func85, Tryz.ntmps85
  go_wp2
  go_loop [8] (fun i => ∃ k : Nat, k ≤ xs.length ∧ i = .int .i64 k ∧ Hid (hasB (xs.take k) n = false)) (fun i => xs.length - (intOf i).toNat)
  case atStart => exact ⟨0, Nat.zero_le _, rfl, hide rfl⟩
  case round =>
    obtain ⟨k, hk, rfl, hall⟩ := hrel
    by_cases hlt : k < xs.length
    · obtain ⟨b, off, x, rfl, hb, hx, hc⟩ := h.at_ hlt
      cases hp : (n == x)
      · have HA := hide (any_nextH hx hall.out (by rw [beq_eq_false_iff_ne] at *; exact fun e => hp e.symm))
        go_wp2_with fail
        go_round
        case rel => exact ⟨k + 1, by omega, by go_num, HA⟩
        case measure => simp [intOf]; omega
      · have HV := hide (any_hitH (n := n) hx (by rw [beq_iff_eq] at *; exact hp.symm))
        go_wp2_with fail
        go_ret
        refine ⟨⟨k, rfl, ?_⟩, rfl⟩
        rw [HV.out, decide_eq_true (by omega)]
    · have hall' := hall.out
      rw [List.take_of_length_le (by omega)] at hall'
      have HV := hide hall'
      clear hall hall'
      go_wp2_with fail
      go_ret
      refine ⟨⟨-1, rfl, ?_⟩, rfl⟩
      rw [HV.out]
      rfl
theorem slContains_any (A : Option Addr) (c : Nat) (xs : List Int) (n : Int) (w : World) (h : RI w A xs) (hn : xs.length ≤ 1048576) :
    Calls Tryz.prog 77 #[.slice A xs.length c, .int .i64 n] w (fun e w' => e = .returned (.bool (hasB xs n)) ∧ w = w') := by
  go_enter Tryz.func77, Tryz.ntmps77
  go_wp2_with fail
  refine (slIndex_any _ _ xs n _ h hn).mono ?_
  rintro e w1 ⟨⟨k, rfl, hk⟩, rfl⟩
  have HK := hide hk
  clear hk
  go_wp2_with fail
  go_ret
  rw [← HK.out]
  first
    | exact ⟨rfl, rfl⟩
    | (refine ⟨?_, rfl⟩; simp)
end Go.Proofs.YtocellbhpjiioaaGreat

namespace Go.Proofs.YtocellbhpjiioaaGreat
open Go.RowKit
set_option linter.unusedVariables false

theorem numsW_range {g : Nat → Bool} : ∀ {n : Nat} {c v : Int}, (numsW g n).lookup c = some v → 0 ≤ c ∧ c < (n : Int)
  | 0, c, v, h => by cases h
  | n + 1, c, v, h => by
    unfold numsW at h
    split at h
    · have := numsW_range h
      omega
    · rw [lookup_snoc2] at h
      cases hc : (numsW g n).lookup c with
      | some u =>
        have := numsW_range hc
        omega
      | none =>
        rw [hc] at h
        simp at h
        omega
theorem numsW_inj {g : Nat → Bool} : ∀ {n : Nat} {c d v : Int}, (numsW g n).lookup c = some v → (numsW g n).lookup d = some v → c = d
  | 0, c, d, v, h, _ => by cases h
  | n + 1, c, d, v, h, h' => by
    unfold numsW at h h'
    split at h
    · rename_i hg
      rw [if_pos hg] at h'
      exact numsW_inj h h'
    · rename_i hg
      rw [if_neg hg] at h'
      rw [lookup_snoc2] at h h'
      have hok := numsW_ok g n
      cases hc : (numsW g n).lookup c with
      | some u =>
        rw [hc] at h
        injection h with h
        subst h
        have h1 := hok c u hc
        cases hd : (numsW g n).lookup d with
        | some t =>
          rw [hd] at h'
          injection h' with h'
          subst h'
          exact numsW_inj hc hd
        | none =>
          rw [hd] at h'
          simp at h'
          omega
      | none =>
        rw [hc] at h
        simp at h
        cases hd : (numsW g n).lookup d with
        | some t =>
          rw [hd] at h'
          injection h' with h'
          subst h'
          have h1 := hok d t hd
          omega
        | none =>
          rw [hd] at h'
          simp at h'
          omega
theorem numsW_sur {g : Nat → Bool} : ∀ {n : Nat} {v : Int}, 0 ≤ v → v < ((numsW g n).length : Int) → ∃ c, (numsW g n).lookup c = some v
  | 0, v, h1, h2 => by simp [numsW] at h2; omega
  | n + 1, v, h1, h2 => by
    unfold numsW at h2 ⊢
    split
    · rename_i hg
      rw [if_pos hg] at h2
      exact numsW_sur h1 h2
    · rename_i hg
      rw [if_neg hg, List.length_append, List.length_singleton] at h2
      by_cases hv : v < ((numsW g n).length : Int)
      · obtain ⟨c, hc⟩ := numsW_sur h1 hv
        exact ⟨c, by rw [lookup_snoc2, hc]; rfl⟩
      · refine ⟨(n : Int), ?_⟩
        rw [lookup_snoc2, numsW_fresh g n _ (Int.le_refl _), if_pos rfl]
        simp
        omega
theorem renC_flatten (f : Int → Option Int) (code : List (List Int)) : (renC f code).flatten = code.flatten.filterMap (renX f) := by
  unfold renC renRow
  induction code with
  | nil => rfl
  | cons x t ih => rw [List.map_cons, List.flatten_cons, List.flatten_cons, List.filterMap_append, ih]
theorem renX_some {f : Int → Option Int} {x b : Int} (h : renX f x = some b) : ∃ v, f (crI x) = some v ∧ b = if 0 < x then v + 1 else -v - 1 := by
  unfold renX at h
  cases hf : f (crI x) with
  | none => rw [hf] at h; cases h
  | some v =>
    rw [hf] at h
    injection h with h
    exact ⟨v, rfl, h.symm⟩
theorem crI_back {x y : Int} (h : crI x = crI y) (hs : 0 < x ↔ 0 < y) : x = y := by unfold crI at h; omega
theorem without_good {code : List (List Int)} {N : Nat} (g : Nat → Bool) (hN : sumLen code = 2 * N) (h : Good N code.flatten) : Good (numsW g N).length (renC (numF (numsW g N)) code).flatten := by
  have hok := numsW_ok g N
  rw [renC_flatten]
  constructor
  · unfold List.Nodup
    rw [List.pairwise_filterMap]
    refine List.Pairwise.imp ?_ h.1
    intro x y hxy a ha b hb e
    subst e
    obtain ⟨u, h1, h2⟩ := renX_some ha
    obtain ⟨v, h3, h4⟩ := renX_some hb
    have b1 := hok _ _ h1
    have b2 := hok _ _ h3
    have hs : (0 < x ↔ 0 < y) ∧ u = v := by
      rw [h2] at h4
      split at h4 <;> split at h4 <;> omega
    obtain ⟨hs, rfl⟩ := hs
    exact hxy (crI_back (numsW_inj h1 h3) hs)
  · intro b hb
    obtain ⟨x, hx, hb⟩ := List.mem_filterMap.1 hb
    obtain ⟨u, h1, h2⟩ := renX_some hb
    have b1 := hok _ _ h1
    split at h2 <;> omega
theorem without_len {code : List (List Int)} {N : Nat} (g : Nat → Bool) (hN : sumLen code = 2 * N) (h : Good N code.flatten) : sumLen (renC (numF (numsW g N)) code) = 2 * (numsW g N).length := by
  have hgood := without_good g hN h
  have hfl : code.flatten.length = 2 * N := by rw [flatten_len]; exact hN
  have h1 : (renC (numF (numsW g N)) code).flatten.length ≤ (bothL (numsW g N).length).length := len_le_of_sub hgood.1 fun x hx => bothL_mem.2 (hgood.2 x hx)
  have h2 : (bothL (numsW g N).length).length ≤ (renC (numF (numsW g N)) code).flatten.length := len_le_of_sub (bothL_nodup _) fun b hb => by
    obtain ⟨b0, b1, b2⟩ := bothL_mem.1 hb
    rw [renC_flatten, List.mem_filterMap]
    by_cases hp : 0 < b
    · obtain ⟨c, hc⟩ := numsW_sur (g := g) (n := N) (v := b - 1) (by omega) (by omega)
      have hr := numsW_range hc
      refine ⟨c + 1, h.all hfl (by omega) (by omega) (by omega), ?_⟩
      have e : crI (c + 1) = c := by unfold crI; omega
      rw [renX_up (v := b - 1) (by rw [e]; exact hc) (by omega)]
      congr 1
      omega
    · obtain ⟨c, hc⟩ := numsW_sur (g := g) (n := N) (v := -b - 1) (by omega) (by omega)
      have hr := numsW_range hc
      refine ⟨-c - 1, h.all hfl (by omega) (by omega) (by omega), ?_⟩
      have e : crI (-c - 1) = c := by unfold crI; omega
      rw [renX_down (v := -b - 1) (by rw [e]; exact hc) (by omega)]
      congr 1
      omega
  rw [bothL_length, flatten_len] at h1 h2
  omega
theorem without_valid {code : List (List Int)} (g : Nat → Bool) (h : validC code = true) : validC (withoutC g code) = true := by
  obtain ⟨N, h1, h2, h3, h4⟩ := validC_true h
  have e : sumLen code / 2 = N := by omega
  have hl := numsW_len g N
  unfold withoutC
  rw [e, validC_good (N := (numsW g N).length) (by rw [renC_length]; exact h1) (without_len g h2 h4) (by omega)]
  exact decide_eq_true (without_good g h2 h4)
theorem without_sum {code : List (List Int)} (g : Nat → Bool) (h : validC code = true) : sumLen (withoutC g code) = 2 * (numsW g (sumLen code / 2)).length := by
  obtain ⟨N, h1, h2, h3, h4⟩ := validC_true h
  have e : sumLen code / 2 = N := by omega
  unfold withoutC
  rw [e]
  exact without_len g h2 h4
theorem numsW_lt {g : Nat → Bool} {n k : Nat} (hk : k < n) (hg : g k = true) : (numsW g n).length < n := by
  induction n with
  | zero => omega
  | succ n ih =>
    unfold numsW
    split
    · have := numsW_len g n
      omega
    · rename_i hn
      have : k ≠ n := fun e => hn (e ▸ hg)
      have := ih (by omega)
      simp
      omega
theorem numsW_congr {g g' : Nat → Bool} : ∀ {n : Nat}, (∀ k, k < n → g k = g' k) → numsW g n = numsW g' n
  | 0, _ => rfl
  | n + 1, h => by
    unfold numsW
    rw [h n (by omega), numsW_congr fun k hk => h k (by omega)]
end Go.Proofs.YtocellbhpjiioaaGreat
