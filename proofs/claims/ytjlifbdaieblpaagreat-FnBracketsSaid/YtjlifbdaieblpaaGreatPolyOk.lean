/-
  Contracts of the two tests whether a polynomial is valid, of the program and of the reference. Conditions: the length is far below the machine's.
-/
import Derived.Test.YtjlifbdaieblpaaGreatInts
namespace Go.Proofs.YtjlifbdaieblpaaGreat
open Go.RowKit
set_option linter.unusedVariables false

/-- A function that hands back a value and leaves what was there as it was. -/
def RetV (w : World) (v : Value) (e : Ending) (w' : World) : Prop := e = .returned v ∧ Below w.heap.size w w'

def inB (x lo hi : Int) : Bool := decide (lo ≤ x ∧ x ≤ hi)
theorem inB_true {x lo hi : Int} : inB x lo hi = true ↔ lo ≤ x ∧ x ≤ hi := by simp [inB]
theorem inB_false {x lo hi : Int} : inB x lo hi = false ↔ x < lo ∨ hi < x := by
  rw [← Bool.not_eq_true, inB_true]; omega
theorem inRange_any (x lo hi : Int) (w : World) :
    Calls Tryz.prog 60 #[.int .i64 x, .int .i64 lo, .int .i64 hi] w fun e w' => e = .returned (.bool (inB x lo hi)) ∧ w = w' := by
  by_cases h1 : lo ≤ x
  · by_cases h2 : x ≤ hi
    · have HB := hide (inB_true.2 ⟨h1, h2⟩)
      go_enter Tryz.func60, Tryz.ntmps60
      go_wp2
      go_ret
      rw [HB.out]
      exact ⟨rfl, rfl⟩
    · have HB := hide ((inB_false (lo := lo)).2 (.inr (Int.not_le.1 h2)))
      go_enter Tryz.func60, Tryz.ntmps60
      go_wp2
      go_ret
      rw [HB.out]
      exact ⟨rfl, rfl⟩
  · have HB := hide ((inB_false (hi := hi)).2 (.inl (Int.not_le.1 h1)))
    go_enter Tryz.func60, Tryz.ntmps60
    go_wp2
    go_ret
    rw [HB.out]
    exact ⟨rfl, rfl⟩
theorem l00In_any (x lo hi : Int) (w : World) :
    Calls Tryz.prog 33 #[.int .i64 x, .int .i64 lo, .int .i64 hi] w fun e w' => e = .returned (.bool (inB x lo hi)) ∧ w = w' := by
  by_cases h1 : lo ≤ x
  · by_cases h2 : x ≤ hi
    · have HB := hide (inB_true.2 ⟨h1, h2⟩)
      go_enter Tryz.func33, Tryz.ntmps33
      go_wp2
      go_ret
      rw [HB.out]
      exact ⟨rfl, rfl⟩
    · have HB := hide ((inB_false (lo := lo)).2 (.inr (Int.not_le.1 h2)))
      go_enter Tryz.func33, Tryz.ntmps33
      go_wp2
      go_ret
      rw [HB.out]
      exact ⟨rfl, rfl⟩
  · have HB := hide ((inB_false (hi := hi)).2 (.inl (Int.not_le.1 h1)))
    go_enter Tryz.func33, Tryz.ntmps33
    go_wp2
    go_ret
    rw [HB.out]
    exact ⟨rfl, rfl⟩

def coefB (x : Int) : Bool := inB x (-1000000000000) 1000000000000
def vldP (low : Int) (xs : List Int) : Bool :=
  if xs.length = 0 then low == 0 else xs.all coefB && (decide (xs.length ≤ 400) && (inB low (-1000) 1000 && (xs.getD 0 0 != 0 && xs.getD (xs.length - 1) 0 != 0)))

theorem all_next {p : Int → Bool} {xs : List Int} {k : Nat} {x : Int} (hx : xs[k]? = some x) (h : (xs.take k).all p = true) (hp : p x = true) : (xs.take (k + 1)).all p = true := by
  rw [List.take_add_one, hx, List.all_append, h]
  simp [hp]
theorem all_bad {p : Int → Bool} {xs : List Int} {k : Nat} {x : Int} (hx : xs[k]? = some x) (hp : p x = false) : xs.all p = false := by
  rw [Bool.eq_false_iff]
  intro h
  rw [List.all_eq_true] at h
  rw [h x (List.mem_of_getElem? hx)] at hp
  cases hp
theorem vldP_bad {low : Int} {xs : List Int} (hn : 0 < xs.length) (h : xs.all coefB = false) : vldP low xs = false := by
  unfold vldP
  rw [if_neg (by omega), h]
  rfl
theorem vldP_end {low : Int} {xs : List Int} (hn : 0 < xs.length) (h : xs.all coefB = true) :
    vldP low xs = (decide (xs.length ≤ 400) && (inB low (-1000) 1000 && (xs.getD 0 0 != 0 && xs.getD (xs.length - 1) 0 != 0))) := by
  unfold vldP
  rw [if_neg (by omega), h, Bool.true_and]
theorem vldP_none {low : Int} {xs : List Int} (hn : xs.length = 0) : vldP low xs = (low == 0) := by
  unfold vldP
  rw [if_pos hn]
theorem getD_of {xs : List Int} {k : Nat} {x : Int} (h : xs[k]? = some x) : xs.getD k 0 = x := by
  rw [List.getD_eq_getElem?_getD, h]; rfl

set_option maxHeartbeats 1000000 in
theorem l18Ok_any (b0 o0 : Nat) (low : Int) (A : Option Addr) (c : Nat) (xs : List Int) (w : World) (h0 : w.cell? ⟨b0, o0, none⟩ = some (.int .i64 low)) (h1 : w.cell? ⟨b0, o0 + 1, none⟩ = some (.slice A xs.length c))
    (h : RI w A xs) (hn : xs.length ≤ 1048576) :
    Calls Tryz.prog 32 #[.pointer (some ⟨b0, o0, none⟩)] w fun e w' => e = .returned (.bool (vldP low xs)) ∧ w = w' := by
  by_cases hz : xs.length = 0
  · have HV := hide (vldP_none (low := low) hz)
    have hz' : ((xs.length : Int) == 0) = true := by rw [beq_iff_eq]; omega
    clear hz
    go_enter Tryz.func32, Tryz.ntmps32
    go_wp2
    go_ret
    rw [HV.out]
    exact ⟨rfl, rfl⟩
  · have hpos : 0 < xs.length := by omega
    have hz' : ((xs.length : Int) == 0) = false := by rw [beq_eq_false_iff_ne]; omega
    go_enter Tryz.func32, Tryz.ntmps32
    go_wp2
    go_loop [4] (fun i => ∃ k : Nat, k ≤ xs.length ∧ i = .int .i64 k ∧ Hid ((xs.take k).all coefB = true)) (fun i => xs.length - (intOf i).toNat)
    case atStart => exact ⟨0, Nat.zero_le _, rfl, hide (by simp)⟩
    case round =>
      obtain ⟨k, hk, rfl, hall⟩ := hrel
      by_cases hlt : k < xs.length
      · obtain ⟨b, off, x, rfl, hb, hx, hc⟩ := h.at_ hlt
        by_cases hcx : coefB x = true
        · have HA := hide (all_next hx hall.out hcx)
          have hcx' : inB x (-1000000000000) 1000000000000 = true := hcx
          go_wp2_with (go_at_call 33; refine (l00In_any _ _ _ _).mono ?_; rintro e w' ⟨rfl, rfl⟩)
          go_round
          case rel => exact ⟨k + 1, by omega, by go_num, HA⟩
          case measure => simp [intOf]; omega
        · have hcx' : inB x (-1000000000000) 1000000000000 = false := by rw [Bool.not_eq_true] at hcx; exact hcx
          have HV := hide (vldP_bad (low := low) hpos (all_bad hx hcx'))
          go_wp2_with (go_at_call 33; refine (l00In_any _ _ _ _).mono ?_; rintro e w' ⟨rfl, rfl⟩)
          go_ret
          rw [HV.out]
          exact ⟨rfl, rfl⟩
      · have hkk : k = xs.length := by omega
        have hall' := hall.out
        rw [hkk, List.take_of_length_le (Nat.le_refl _)] at hall'
        have HV := hide (vldP_end (low := low) hpos hall')
        clear hall hall' hkk
        obtain ⟨b, off, x, rfl, hb, hx, hc⟩ := h.at_ hpos
        obtain ⟨b2, off2, y, hA2, hb2, hy, hc2⟩ := h.at_ (k := xs.length - 1) (by omega)
        injection hA2 with hA2
        injection hA2 with e1 e2
        subst e1 e2
        have hV := HV.out
        rw [getD_of hx, getD_of hy] at hV
        have HV := hide hV
        clear hV
        have hc0 : w.cell? ⟨b, off, none⟩ = some (.int .i64 x) := hc
        have hl1 : 1 ≤ (xs.length : Int) := by omega
        by_cases c1 : xs.length ≤ 400
        · cases c2 : inB low (-1000) 1000
          · go_wp2_with (go_at_call 33; refine (l00In_any _ _ _ _).mono ?_; rintro e w' ⟨rfl, rfl⟩)
            go_ret
            rw [HV.out]
            simp [c2]
          · by_cases c3 : x = 0
            · have c3' : (x != 0) = false := by simp [c3]
              go_wp2_with (go_at_call 33; refine (l00In_any _ _ _ _).mono ?_; rintro e w' ⟨rfl, rfl⟩)
              go_ret
              rw [HV.out]
              simp [c3]
            · have c3' : (x != 0) = true := by simpa using c3
              go_wp2_with (go_at_call 33; refine (l00In_any _ _ _ _).mono ?_; rintro e w' ⟨rfl, rfl⟩)
              go_ret
              rw [HV.out]
              simp [c1, c2, c3]
        · go_wp2_with (go_at_call 33; refine (l00In_any _ _ _ _).mono ?_; rintro e w' ⟨rfl, rfl⟩)
          go_ret
          rw [HV.out]
          simp [c1]
set_option maxHeartbeats 1000000 in
theorem implValidPoly_any (low : Int) (A : Option Addr) (c : Nat) (xs : List Int) (w : World)
    (h : RI w A xs) (hn : xs.length ≤ 1048576) :
    Calls Tryz.prog 39 #[.agg #[.int .i64 low, .slice A xs.length c]] w (RetV w (.bool (vldP low xs))) := by
  have hB : Below w.heap.size w (w.alloc (.cells #[.int .i64 low, .slice A xs.length c] 29)) := (Below.refl _ _).alloc (Nat.le_refl _) _
  by_cases hz : xs.length = 0
  · have HV := hide (vldP_none (low := low) hz)
    have hz' : ((xs.length : Int) == 0) = true := by rw [beq_iff_eq]; omega
    clear hz
    go_enter Tryz.func39, Tryz.ntmps39
    go_wp2
    go_ret
    rw [HV.out]
    exact ⟨rfl, hB⟩
  · have hpos : 0 < xs.length := by omega
    have hz' : ((xs.length : Int) == 0) = false := by rw [beq_eq_false_iff_ne]; omega
    go_enter Tryz.func39, Tryz.ntmps39
    go_wp2
    go_loop [17] (fun i => ∃ k : Nat, k ≤ xs.length ∧ i = .int .i64 k ∧ Hid ((xs.take k).all coefB = true)) (fun i => xs.length - (intOf i).toNat)
    case atStart => exact ⟨0, Nat.zero_le _, rfl, hide (by simp)⟩
    case round =>
      obtain ⟨k, hk, rfl, hall⟩ := hrel
      by_cases hlt : k < xs.length
      · obtain ⟨b, off, x, rfl, hb, hx, hc⟩ := h.at_ hlt
        by_cases hcx : coefB x = true
        · have HA := hide (all_next hx hall.out hcx)
          have hcx' : inB x (-1000000000000) 1000000000000 = true := hcx
          go_wp2_with (go_at_call 60; refine (inRange_any _ _ _ _).mono ?_; rintro e w' ⟨rfl, rfl⟩)
          go_round
          case rel => exact ⟨k + 1, by omega, by go_num, HA⟩
          case measure => simp [intOf]; omega
        · have hcx' : inB x (-1000000000000) 1000000000000 = false := by rw [Bool.not_eq_true] at hcx; exact hcx
          have HV := hide (vldP_bad (low := low) hpos (all_bad hx hcx'))
          go_wp2_with (go_at_call 60; refine (inRange_any _ _ _ _).mono ?_; rintro e w' ⟨rfl, rfl⟩)
          go_ret
          rw [HV.out]
          exact ⟨rfl, hB⟩
      · have hkk : k = xs.length := by omega
        have hall' := hall.out
        rw [hkk, List.take_of_length_le (Nat.le_refl _)] at hall'
        have HV := hide (vldP_end (low := low) hpos hall')
        clear hall hall' hkk
        obtain ⟨b, off, x, rfl, hb, hx, hc⟩ := h.at_ hpos
        obtain ⟨b2, off2, y, hA2, hb2, hy, hc2⟩ := h.at_ (k := xs.length - 1) (by omega)
        injection hA2 with hA2
        injection hA2 with e1 e2
        subst e1 e2
        have hV := HV.out
        rw [getD_of hx, getD_of hy] at hV
        have HV := hide hV
        clear hV
        have hc0 : w.cell? ⟨b, off, none⟩ = some (.int .i64 x) := hc
        have hl1 : 1 ≤ (xs.length : Int) := by omega
        by_cases c1 : xs.length ≤ 400
        · cases c2 : inB low (-1000) 1000
          · go_wp2_with (go_at_call 60; refine (inRange_any _ _ _ _).mono ?_; rintro e w' ⟨rfl, rfl⟩)
            go_ret
            rw [HV.out]
            refine ⟨?_, hB⟩; simp [c2]
          · by_cases c3 : x = 0
            · have c3' : (x != 0) = false := by simp [c3]
              go_wp2_with (go_at_call 60; refine (inRange_any _ _ _ _).mono ?_; rintro e w' ⟨rfl, rfl⟩)
              go_ret
              rw [HV.out]
              refine ⟨?_, hB⟩; simp [c3]
            · have c3' : (x != 0) = true := by simpa using c3
              go_wp2_with (go_at_call 60; refine (inRange_any _ _ _ _).mono ?_; rintro e w' ⟨rfl, rfl⟩)
              go_ret
              rw [HV.out]
              refine ⟨?_, hB⟩; simp [c1, c2, c3]
        · go_wp2_with (go_at_call 60; refine (inRange_any _ _ _ _).mono ?_; rintro e w' ⟨rfl, rfl⟩)
          go_ret
          rw [HV.out]
          refine ⟨?_, hB⟩; simp [c1]

theorem specValidPoly_any (low : Int) (A : Option Addr) (c : Nat) (xs : List Int) (w : World) (h : RI w A xs) (hn : xs.length ≤ 1048576) :
    Calls Tryz.prog 9 #[.agg #[.int .i64 low, .slice A xs.length c]] w (RetV w (.bool (vldP low xs))) := by
  go_enter Tryz.func9, Tryz.ntmps9
  go_wp2_with (go_at_call 32; refine (l18Ok_any _ _ low A c xs _ (by simp [go_sem]) (by simp [go_sem]) (h.alloc _) hn).mono ?_; rintro e w' ⟨rfl, rfl⟩)
  go_ret
  exact ⟨rfl, (Below.refl _ _).alloc (Nat.le_refl _) _⟩
end Go.Proofs.YtjlifbdaieblpaaGreat
