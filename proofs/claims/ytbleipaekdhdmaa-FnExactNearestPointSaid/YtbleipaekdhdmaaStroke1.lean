/-
  Contracts: ValidStroke, of the reference and of the program. Conditions: the length is far below the machine's.
-/
import Derived.Test.YtbleipaekdhdmaaPts
namespace Go.Proofs.Ytbleipaekdhdmaa
open Go.RowKit
set_option linter.unusedVariables false

def placeB (p : Int × Int) : Bool := inB p.1 0 2000 && inB p.2 0 2000
def vldS (ps : List (Int × Int)) : Bool := inB ps.length 1 60 && ps.all placeB
theorem all_nextP {α : Type} {p : α → Bool} {xs : List α} {k : Nat} {x : α} (hx : xs[k]? = some x) (h : (xs.take k).all p = true) (hp : p x = true) : (xs.take (k + 1)).all p = true := by
  rw [List.take_add_one, hx, List.all_append, h]
  simp [hp]
theorem all_badP {α : Type} {p : α → Bool} {xs : List α} {k : Nat} {x : α} (hx : xs[k]? = some x) (hp : p x = false) : xs.all p = false := by
  rw [Bool.eq_false_iff]
  intro h
  rw [List.all_eq_true] at h
  rw [h x (List.mem_of_getElem? hx)] at hp
  cases hp

set_option maxHeartbeats 1000000 in
theorem l19Ok_any (A : Option Addr) (c : Nat) (ps : List (Int × Int)) (w : World) (h : RP w A ps) (hn : ps.length ≤ 1048576) :
    Calls Try.prog 34 #[.slice A ps.length c] w fun e w' => e = .returned (.bool (vldS ps)) ∧ w = w' := by
  go_enter Try.func34, Try.ntmps34
  go_wp2
  go_loop [3] (fun i => ∃ k : Nat, k ≤ ps.length ∧ i = .int .i64 k ∧ Hid ((ps.take k).all placeB = true)) (fun i => ps.length - (intOf i).toNat)
  case atStart => exact ⟨0, Nat.zero_le _, rfl, hide (by simp)⟩
  case round =>
    obtain ⟨k, hk, rfl, hall⟩ := hrel
    by_cases hlt : k < ps.length
    · obtain ⟨b, off, x, y, rfl, hb, hx, hc, hd⟩ := h.at_ hlt
      cases hpx : inB x 0 2000
      · have HV := hide (show vldS ps = false by unfold vldS; rw [all_badP hx (by simp [placeB, hpx]), Bool.and_false])
        clear hx hall
        go_wp2_with (go_at_call 42; refine (l00In_any _ _ _ _).mono ?_; rintro e w' ⟨rfl, rfl⟩)
        go_ret
        rw [HV.out]
        exact ⟨rfl, rfl⟩
      · cases hpy : inB y 0 2000
        · have HV := hide (show vldS ps = false by unfold vldS; rw [all_badP hx (by simp [placeB, hpy]), Bool.and_false])
          clear hx hall
          go_wp2_with (go_at_call 42; refine (l00In_any _ _ _ _).mono ?_; rintro e w' ⟨rfl, rfl⟩)
          go_ret
          rw [HV.out]
          exact ⟨rfl, rfl⟩
        · have HA := hide (all_nextP (p := placeB) hx hall.out (by simp [placeB, hpx, hpy]))
          clear hx hall
          go_wp2_with (go_at_call 42; refine (l00In_any _ _ _ _).mono ?_; rintro e w' ⟨rfl, rfl⟩)
          go_round
          case rel => exact ⟨k + 1, by omega, by go_num, HA⟩
          case measure => simp [intOf]; omega
    · have hall' := hall.out
      rw [show k = ps.length by omega, List.take_of_length_le (Nat.le_refl _)] at hall'
      have HV := hide (show vldS ps = inB ps.length 1 60 by unfold vldS; rw [hall', Bool.and_true])
      clear hall hall'
      go_wp2_with (go_at_call 42; refine (l00In_any _ _ _ _).mono ?_; rintro e w' ⟨rfl, rfl⟩)
      go_ret
      rw [HV.out]
      exact ⟨rfl, rfl⟩
theorem specValidStroke_any (A : Option Addr) (c : Nat) (ps : List (Int × Int)) (w : World) (h : RP w A ps) (hn : ps.length ≤ 1048576) :
    Calls Try.prog 11 #[.slice A ps.length c] w (RetV w (.bool (vldS ps))) := by
  go_enter Try.func11, Try.ntmps11
  go_wp2_with (go_at_call 34; refine (l19Ok_any _ _ ps _ h hn).mono ?_; rintro e w' ⟨rfl, rfl⟩)
  go_ret
  exact ⟨rfl, Below.refl _ _⟩

theorem isPlace_any (x y : Int) (w : World) : Calls Try.prog 38 #[.agg #[.int .i64 x, .int .i64 y]] w (RetV w (.bool (placeB (x, y)))) := by
  have hB : Below w.heap.size w (w.alloc (.cells #[.int .i64 x, .int .i64 y] 30)) := (Below.refl _ _).alloc (Nat.le_refl _) _
  cases hpx : inB x 0 2000
  · have HV := hide (show placeB (x, y) = false by simp [placeB, hpx])
    go_enter Try.func38, Try.ntmps38
    go_wp2_with (go_at_call 35; refine (inRange_any _ _ _ _).mono ?_; rintro e w' ⟨rfl, rfl⟩)
    go_ret
    rw [HV.out]
    exact ⟨rfl, hB⟩
  · have HV := hide (show placeB (x, y) = inB y 0 2000 by simp [placeB, hpx])
    go_enter Try.func38, Try.ntmps38
    go_wp2_with (go_at_call 35; refine (inRange_any _ _ _ _).mono ?_; rintro e w' ⟨rfl, rfl⟩)
    go_ret
    rw [HV.out]
    exact ⟨rfl, hB⟩
theorem notPlace_any (x y : Int) (w : World) : Calls Try.prog 37 #[.agg #[.int .i64 x, .int .i64 y]] w (RetV w (.bool (!placeB (x, y)))) := by
  go_enter Try.func37, Try.ntmps37
  go_wp2_with (go_at_call 38; refine (isPlace_any _ _ _).mono ?_; rintro e w' ⟨rfl, hb⟩)
  go_ret
  exact ⟨rfl, ((Below.refl w.heap.size w).alloc (Nat.le_refl _) _).trans (hb.mono (by simp))⟩

set_option maxHeartbeats 1000000 in
theorem indexBad_any (A : Option Addr) (c : Nat) (ps : List (Int × Int)) (w : World) (h : RP w A ps) (hn : ps.length ≤ 1048576) :
    Calls Try.prog 60 #[.slice A ps.length c, .func (.func 37) #[] #[]] w fun e w' => ∃ r : Int, e = .returned (.int .i64 r) ∧ -1 ≤ r ∧ (decide (r ≥ 0) = !ps.all placeB) ∧ Below w.heap.size w w' := by
  go_enter Try.func60, Try.ntmps60
  go_wp2
  go_loopw [8] (fun i wr => ∃ k : Nat, k ≤ ps.length ∧ i = .int .i64 k ∧ Hid ((ps.take k).all placeB = true) ∧ Below w.heap.size w wr) (fun i _ => ps.length - (intOf i).toNat)
  case atStart => exact ⟨0, Nat.zero_le _, rfl, hide (by simp), Below.refl _ _⟩
  case round =>
    obtain ⟨k, hk, rfl, hall, hB⟩ := hrel
    by_cases hlt : k < ps.length
    · have hr := h.below hB
      obtain ⟨b, off, x, y, rfl, hb, hx, hc, hd⟩ := hr.at_ hlt
      have hz := hB.size
      have HX := hide hx
      clear hx
      go_wp2_with fail
      refine (notPlace_any x y _).mono ?_
      rintro e w2 ⟨rfl, hb2⟩
      cases hp : placeB (x, y)
      · have HV := hide (all_badP HX.out hp)
        go_wp2_with fail
        go_ret
        refine ⟨(k : Int), rfl, by omega, ?_, hB.trans (hb2.mono hz)⟩
        rw [HV.out]
        simp
      · have HA := hide (all_nextP (p := placeB) HX.out hall.out hp)
        go_wp2_with fail
        go_roundw
        case rel => exact ⟨k + 1, by omega, by go_num, HA, hB.trans (hb2.mono hz)⟩
        case measure => simp [intOf]; omega
    · have hall' := hall.out
      rw [show k = ps.length by omega, List.take_of_length_le (Nat.le_refl _)] at hall'
      have HV := hide hall'
      clear hall hall'
      go_wp2_with fail
      go_ret
      refine ⟨-1, rfl, by omega, ?_, hB⟩
      rw [HV.out]
      rfl
theorem containsBad_any (A : Option Addr) (c : Nat) (ps : List (Int × Int)) (w : World) (h : RP w A ps) (hn : ps.length ≤ 1048576) :
    Calls Try.prog 36 #[.slice A ps.length c, .func (.func 37) #[] #[]] w (RetV w (.bool (!ps.all placeB))) := by
  go_enter Try.func36, Try.ntmps36
  go_wp2_with fail
  refine (indexBad_any A c ps _ h hn).mono ?_
  rintro e w2 ⟨r, rfl, h1, h2, hb⟩
  have H2 := hide h2
  clear h2
  go_wp2_with fail
  go_ret
  exact ⟨congrArg (fun x => Ending.returned (Value.bool x)) H2.out, hb⟩
theorem implValidStroke_any (A : Option Addr) (c : Nat) (ps : List (Int × Int)) (w : World) (h : RP w A ps) (hn : ps.length ≤ 1048576) :
    Calls Try.prog 13 #[.slice A ps.length c] w (RetV w (.bool (vldS ps))) := by
  cases hl : inB ps.length 1 60
  · have HV := hide (show vldS ps = false by unfold vldS; rw [hl, Bool.false_and])
    go_enter Try.func13, Try.ntmps13
    go_wp2_with (go_at_call 35; refine (inRange_any _ _ _ _).mono ?_; rintro e w' ⟨rfl, rfl⟩)
    go_ret
    rw [HV.out]
    exact ⟨rfl, Below.refl _ _⟩
  · have HV := hide (show vldS ps = ps.all placeB by unfold vldS; rw [hl, Bool.true_and])
    go_enter Try.func13, Try.ntmps13
    go_wp2_with (go_at_call 35; refine (inRange_any _ _ _ _).mono ?_; rintro e w' ⟨rfl, rfl⟩)
    refine (containsBad_any A c ps _ h hn).mono ?_
    rintro e w2 ⟨rfl, hb⟩
    go_wp2_with fail
    go_ret
    rw [HV.out]
    exact ⟨by simp, hb⟩
end Go.Proofs.Ytbleipaekdhdmaa
