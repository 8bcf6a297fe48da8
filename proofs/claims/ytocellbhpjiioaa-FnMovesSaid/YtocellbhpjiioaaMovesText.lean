/-
  Contracts: whether a move has its form; MovesText, of the reference and of the program. Conditions: none beyond the lengths.
-/
import Derived.Test.YtocellbhpjiioaaMoves
import Derived.Test.YtocellbhpjiioaaText
namespace Go.Proofs.Ytocellbhpjiioaa
open Go.RowKit
set_option linter.unusedVariables false

def formB (m : Int × Int × Int) : Bool := inB m.2.1 0 119 && (if m.1 = 1 then decide (m.2.2 = 0) else (decide (m.1 = 2) && inB m.2.2 (m.2.1 + 1) 119))
set_option maxHeartbeats 2000000 in
theorem l16Form_any (k a b : Int) (w : World) : Calls Try.prog 32 #[.agg #[.int .i64 k, .int .i64 a, .int .i64 b]] w (RetV w (.bool (formB (k, a, b)))) := by
  have hB : Below w.heap.size w (w.alloc (.cells #[.int .i64 k, .int .i64 a, .int .i64 b] 26)) := (Below.refl _ _).alloc (Nat.le_refl _) _
  cases ha : inB a 0 119
  · have HV := hide (show formB (k, a, b) = false by simp [formB, ha])
    go_enter Try.func32, Try.ntmps32
    go_wp2_with (go_at_call 57; refine (l00In_any _ _ _ _).mono ?_; rintro e w' ⟨rfl, rfl⟩)
    go_ret
    rw [HV.out]
    exact ⟨rfl, hB⟩
  · obtain ⟨a0, a1⟩ := inB_true.1 ha
    by_cases hk : k = 1
    · have HV := hide (show formB (k, a, b) = (b == 0) by simp [formB, ha, hk]; rfl)
      have t0 : (k == 1) = true := by simp [hk]
      clear hk
      go_enter Try.func32, Try.ntmps32
      go_wp2_with (go_at_call 57; refine (l00In_any _ _ _ _).mono ?_; rintro e w' ⟨rfl, rfl⟩)
      go_ret
      rw [HV.out]
      exact ⟨rfl, hB⟩
    · have t0 : (k == 1) = false := by simp [hk]
      by_cases hk2 : k = 2
      · have HV := hide (show formB (k, a, b) = inB b (a + 1) 119 by simp [formB, ha, hk2])
        have t1 : (k == 2) = true := by simp [hk2]
        clear hk hk2
        go_enter Try.func32, Try.ntmps32
        go_wp2_with (go_at_call 57; refine (l00In_any _ _ _ _).mono ?_; rintro e w' ⟨rfl, rfl⟩)
        go_ret
        rw [HV.out]
        exact ⟨rfl, hB⟩
      · have HV := hide (show formB (k, a, b) = false by simp [formB, ha, hk, hk2])
        have t1 : (k == 2) = false := by simp [hk2]
        clear hk hk2
        go_enter Try.func32, Try.ntmps32
        go_wp2_with (go_at_call 57; refine (l00In_any _ _ _ _).mono ?_; rintro e w' ⟨rfl, rfl⟩)
        go_ret
        rw [HV.out]
        exact ⟨rfl, hB⟩
set_option maxHeartbeats 2000000 in
theorem hasForm_any (k a b : Int) (w : World) : Calls Try.prog 28 #[.agg #[.int .i64 k, .int .i64 a, .int .i64 b]] w (RetV w (.bool (formB (k, a, b)))) := by
  have hB : Below w.heap.size w (w.alloc (.cells #[.int .i64 k, .int .i64 a, .int .i64 b] 26)) := (Below.refl _ _).alloc (Nat.le_refl _) _
  by_cases hk : k = 1
  · have t0 : (k == 1) = true := by simp [hk]
    cases ha : inB a 0 119
    · have HV := hide (show formB (k, a, b) = false by simp [formB, ha])
      clear hk
      go_enter Try.func28, Try.ntmps28
      go_wp2_with (go_at_call 45; refine (inRange_any _ _ _ _).mono ?_; rintro e w' ⟨rfl, rfl⟩)
      go_ret
      rw [HV.out]
      exact ⟨rfl, hB⟩
    · have HV := hide (show formB (k, a, b) = (b == 0) by simp [formB, ha, hk]; rfl)
      clear hk
      go_enter Try.func28, Try.ntmps28
      go_wp2_with (go_at_call 45; refine (inRange_any _ _ _ _).mono ?_; rintro e w' ⟨rfl, rfl⟩)
      go_ret
      rw [HV.out]
      exact ⟨rfl, hB⟩
  · have t0 : (k == 1) = false := by simp [hk]
    by_cases hk2 : k = 2
    · have t1 : (k == 2) = true := by simp [hk2]
      cases ha : inB a 0 119
      · have HV := hide (show formB (k, a, b) = false by simp [formB, ha])
        clear hk hk2
        go_enter Try.func28, Try.ntmps28
        go_wp2_with (go_at_call 45; refine (inRange_any _ _ _ _).mono ?_; rintro e w' ⟨rfl, rfl⟩)
        go_ret
        rw [HV.out]
        exact ⟨rfl, hB⟩
      · obtain ⟨a0, a1⟩ := inB_true.1 ha
        have HV := hide (show formB (k, a, b) = inB b (a + 1) 119 by simp [formB, ha, hk2])
        clear hk hk2
        go_enter Try.func28, Try.ntmps28
        go_wp2_with (go_at_call 45; refine (inRange_any _ _ _ _).mono ?_; rintro e w' ⟨rfl, rfl⟩)
        go_ret
        rw [HV.out]
        exact ⟨rfl, hB⟩
    · have t1 : (k == 2) = false := by simp [hk2]
      have HV := hide (show formB (k, a, b) = false by simp [formB, hk, hk2])
      clear hk hk2
      go_enter Try.func28, Try.ntmps28
      go_wp2
      go_ret
      rw [HV.out]
      exact ⟨rfl, hB⟩

def listB (ms : List (Int × Int × Int)) : Bool := ms.all formB && decide (ms.length ≤ 120)
theorem all_nextM {α : Type} {p : α → Bool} {xs : List α} {k : Nat} {x : α} (hx : xs[k]? = some x) (h : (xs.take k).all p = true) (hp : p x = true) : (xs.take (k + 1)).all p = true := by
  rw [List.take_add_one, hx, List.all_append, h]
  simp [hp]
theorem all_badM {α : Type} {p : α → Bool} {xs : List α} {k : Nat} {x : α} (hx : xs[k]? = some x) (hp : p x = false) : xs.all p = false := by
  rw [Bool.eq_false_iff]
  intro h
  rw [List.all_eq_true] at h
  rw [h x (List.mem_of_getElem? hx)] at hp
  cases hp
set_option maxHeartbeats 1000000 in
theorem l16List_any (A : Option Addr) (c : Nat) (ms : List (Int × Int × Int)) (w : World) (hms : RG mvE w A ms) (hn : ms.length ≤ 2097152) :
    Calls Try.prog 48 #[.slice A ms.length c] w (RetV w (.bool (listB ms))) := by
  go_enter Try.func48, Try.ntmps48
  go_wp2
  go_loopw [3] (fun i wr => ∃ k : Nat, k ≤ ms.length ∧ i = .int .i64 k ∧ Hid ((ms.take k).all formB = true) ∧ Below w.heap.size w wr) (fun i _ => ms.length - (intOf i).toNat)
  case atStart => exact ⟨0, Nat.zero_le _, rfl, hide (by simp), Below.refl _ _⟩
  case round =>
    obtain ⟨k, hk, rfl, hall, hB⟩ := hrel
    have hz := hB.size
    by_cases hlt : k < ms.length
    · obtain ⟨b, off, x, y, z, rfl, hb, hx, hc, hd, he⟩ := mv_at (hms.below hB) hlt
      have HX := hide hx
      clear hx
      cases hp : formB (x, y, z)
      · have HV := hide (show listB ms = false by unfold listB; rw [all_badM HX.out hp]; rfl)
        go_wp2_with fail
        refine (l16Form_any x y z _).mono ?_
        rintro e w2 ⟨rfl, hb2⟩
        rw [hp]
        go_wp2_with fail
        go_ret
        rw [HV.out]
        exact ⟨rfl, hB.trans (hb2.mono hz)⟩
      · have HA := hide (all_nextM (p := formB) HX.out hall.out hp)
        go_wp2_with fail
        refine (l16Form_any x y z _).mono ?_
        rintro e w2 ⟨rfl, hb2⟩
        rw [hp]
        go_wp2_with fail
        go_roundw
        case rel => exact ⟨k + 1, by omega, by go_num, HA, hB.trans (hb2.mono hz)⟩
        case measure => simp [intOf]; omega
    · have hall' := hall.out
      rw [List.take_of_length_le (by omega)] at hall'
      have HV := hide (show listB ms = decide ((ms.length : Int) ≤ 120) by unfold listB; rw [hall', Bool.true_and]; apply decide_eq_decide.2; omega)
      clear hall hall'
      go_wp2_with fail
      go_ret
      rw [HV.out]
      exact ⟨by simp, hB⟩

def moveT (m : Int × Int × Int) : List UInt8 := if m.1 = 1 then [108, 111, 111, 112, 58] ++ decL m.2.1 else [112, 97, 105, 114, 58] ++ decL m.2.1 ++ [44] ++ decL m.2.2
def movesT (ms : List (Int × Int × Int)) : List UInt8 := if listB ms = true then joinTo [32] (ms.map moveT) ms.length else []
theorem moveT_len {m : Int × Int × Int} (h1 : I64 m.2.1) (h2 : I64 m.2.2) : (moveT m).length ≤ 46 := by
  have := decL_len h1
  have := decL_len h2
  unfold moveT
  split
  · rw [List.length_append]; simp; omega
  · rw [List.length_append, List.length_append, List.length_append]; simp; omega
theorem formB_i64 {m : Int × Int × Int} (h : formB m = true) : I64 m.2.1 ∧ (m.1 ≠ 1 → I64 m.2.2) ∧ I64 m.2.2 := by
  unfold formB at h
  rw [Bool.and_eq_true] at h
  have h1 := inB_true.1 h.1
  have h2 := h.2
  have h3 : I64 m.2.2 := by
    split at h2
    · have := of_decide_eq_true h2
      rw [this]
      exact ⟨by omega, by omega⟩
    · rw [Bool.and_eq_true] at h2
      have := inB_true.1 h2.2
      exact ⟨by omega, by omega⟩
  exact ⟨⟨by omega, by omega⟩, fun _ => h3, h3⟩
theorem listB_at {ms : List (Int × Int × Int)} (h : listB ms = true) {k : Nat} {m : Int × Int × Int} (hk : ms[k]? = some m) : formB m = true := by
  unfold listB at h
  rw [Bool.and_eq_true, List.all_eq_true] at h
  exact h.1 m (List.mem_of_getElem? hk)
theorem moveT_all {ms : List (Int × Int × Int)} (h : listB ms = true) : ∀ x ∈ ms.map moveT, x.length ≤ 46 := by
  intro x hx
  rw [List.mem_map] at hx
  obtain ⟨m, hm, rfl⟩ := hx
  unfold listB at h
  rw [Bool.and_eq_true, List.all_eq_true] at h
  have := formB_i64 (h.1 m hm)
  exact moveT_len this.1 this.2.2

end Go.Proofs.Ytocellbhpjiioaa
