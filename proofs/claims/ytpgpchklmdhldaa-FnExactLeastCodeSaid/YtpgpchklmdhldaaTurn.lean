/-
  Contracts: l15Turn, turned (over slices.Concat, slices.Grow). Conditions: none beyond the lengths.
-/
import Derived.Test.YtpgpchklmdhldaaCmp
import Derived.Test.YtpgpchklmdhldaaRenS
import Derived.Test.YtpgpchklmdhldaaFaultMath
import Derived.Shelf.Spec.SlicesGrow
import Derived.Shelf.SlGeneric
import Derived.Deep.RegionHeld3
namespace Go.Proofs
open Go.Shelf
def Try.growI_ren : Go.Shelf.Ren := ⟨fun | 4 => 136 | n => n, fun | 22 => 33 | 25 => 2 | 3 => 3 | 4 => 4 | 9 => 9 | 20 => 20 | 0 => 0 | n => n, fun | n => n⟩
theorem Try.growI : Go.Proofs.Lays8.n4 Try.prog Try.growI_ren := {
  mixed := by kernel_rfl
  f4 := ⟨Try.f136.name, by decide, Try.func136.trans (congrArg some (by kernel_rfl))⟩
  t0 := Try.underlying0
  a0 := Try.isAgg0
  z0 := Try.sizeOf0
  v0 := Try.zeroValue0
  t3 := Try.underlying3
  a3 := Try.isAgg3
  z3 := Try.sizeOf3
  v3 := Try.zeroValue3
  t4 := Try.underlying4
  a4 := Try.isAgg4
  z4 := Try.sizeOf4
  v4 := Try.zeroValue4
  t9 := Try.underlying9
  a9 := Try.isAgg9
  z9 := Try.sizeOf9
  v9 := Try.zeroValue9
  t20 := Try.underlying20
  a20 := Try.isAgg20
  z20 := Try.sizeOf20
  v20 := Try.zeroValue20
  t22 := Try.underlying33
  a22 := Try.isAgg33
  z22 := Try.sizeOf33
  v22 := Try.zeroValue33 }
end Go.Proofs
namespace Go.Proofs.Ytpgpchklmdhldaa
open Go.RowKit
set_option linter.unusedVariables false

theorem grow_any (n : Nat) (w : World) (hn : n ≤ 2097152) :
    Calls Try.prog 136 #[.slice none 0 0, .int .i64 (n : Int)] w fun e w' => ∃ A c, e = .returned (.slice A 0 c) ∧ OwnI w' w.heap.size A c [] ∧ Below w.heap.size w w' := by
  obtain ⟨i0, hi, hz0, hz1, hz2⟩ := info_parts info_i64
  by_cases h0 : n = 0
  · subst h0
    refine (Any8.slices_Grow_room Try.growI none 0 0 0 w (Nat.le_refl _) (by decide) (by decide) (by decide)).mono ?_
    rintro e w' ⟨rfl, rfl⟩
    exact ⟨none, 0, rfl, OwnI.nil _ _, Below.refl _ _⟩
  · refine (Any8.slices_Grow_grow Try.growI i0 (.int .i64 0) hi hz0 (by rw [hz1]; decide) none 0 0 n [] w (Nat.le_refl _) (by omega) (by rw [hz2]; omega) (by omega) (by simp) (fun _ => rfl) (fun a h => by cases h)).mono ?_
    rintro e w' ⟨rfl, rfl⟩
    have hG := grownCap_ge w (0 + n) 0 (Try.growI_ren.t 25)
    have hG2 := grownCap_le_maxLen w (0 + n) 0 (Try.growI_ren.t 25) (by unfold maxLen; omega)
    refine ⟨_, _, rfl, ⟨by simp, .inr ⟨w.heap.size, _, _, rfl, Nat.le_refl _, heap_alloc_new _ _, Nat.zero_le _, hG2, ?_, by simp⟩⟩, (Below.refl _ _).drew.alloc (by simp) _⟩
    have hzc : ∀ m, (Builtin.zeroCells (Value.int .i64 0).cells m).size = m := fun m => by simp [Builtin.zeroCells, Value.cells]
    rw [Array.size_append, Array.size_append, hzc, hzc]
    simp at hG ⊢
    omega

set_option maxRecDepth 100000 in
set_option maxHeartbeats 2000000 in
theorem concat2_any (G : Nat) (B1 B2 : Option Addr) (d1 d2 : Nat) (xs ys : List Int) (w : World) (hG : Bx w G 33 #[.slice B1 xs.length d1, .slice B2 ys.length d2]) (h1 : RI w B1 xs) (h2 : RI w B2 ys) (hx : xs.length ≤ 1048576) (hy : ys.length ≤ 1048576) :
    Calls Try.prog 113 #[.slice (some ⟨G, 0, none⟩) 2 2] w (RetI w (xs ++ ys)) := by
  obtain ⟨c1, c2⟩ := hG.two
  obtain ⟨L, hL⟩ : ∃ L : Nat, L = xs.length + ys.length := ⟨_, rfl⟩
  have HL := hide hL
  have hLm : L ≤ 2097152 := by omega
  clear hL
  go_enter Try.func113, Try.ntmps113
  go_wp2_with fail
  go_loop [3, 11] (fun s i => ∃ (k : Nat) (n : Nat), k ≤ 2 ∧ i = .int .i64 k ∧ s = .int .i64 n ∧ n ≤ 2097152 ∧ Hid ((k = 0 → n = 0) ∧ (k = 1 → n = xs.length) ∧ (k = 2 → n = xs.length + ys.length))) (fun _ i => 2 - (intOf i).toNat)
  case atStart => exact ⟨0, 0, by omega, rfl, rfl, by omega, hide (by omega)⟩
  case round =>
    obtain ⟨k, n, hk, rfl, rfl, hnl, hkn⟩ := hrel
    rcases (show k = 0 ∨ k = 1 ∨ k = 2 by omega) with rfl | rfl | rfl
    · obtain rfl : n = 0 := hkn.out.1 rfl
      go_wp2_with fail
      go_round
      case rel => exact ⟨1, xs.length, by omega, by go_num, by go_num, by omega, hide (by omega)⟩
      case measure => simp [intOf]
    · obtain rfl : n = xs.length := hkn.out.2.1 rfl
      go_wp2_with fail
      go_round
      case rel => exact ⟨2, xs.length + ys.length, by omega, by go_num, by go_num, by omega, hide (by omega)⟩
      case measure => simp [intOf]
    · obtain rfl : n = L := by rw [HL.out]; exact hkn.out.2.2 rfl
      go_wp2_with fail
      refine (grow_any n _ hnl).mono ?_
      rintro e w1 ⟨A, c, rfl, own, hb⟩
      clear c1 c2
      go_wp2_with fail
      go_loopw [6, 27] (fun o i wr => ∃ (k : Nat) (A1 : Option Addr) (c1 : Nat) (zs : List Int), k ≤ 2 ∧ i = .int .i64 k ∧ o = .slice A1 zs.length c1 ∧ Hid ((k = 0 → zs = []) ∧ (k = 1 → zs = xs) ∧ (k = 2 → zs = xs ++ ys)) ∧ OwnI wr w.heap.size A1 c1 zs ∧ Below w.heap.size w wr) (fun _ i _ => 2 - (intOf i).toNat)
      case atStart => exact ⟨0, A, c, [], by omega, rfl, rfl, hide (by simp), own, hb⟩
      case round =>
        clear own
        obtain ⟨k, A1, c1, zs, hk, rfl, rfl, hkz, own, hB⟩ := hrel
        have hz := hB.size
        obtain ⟨q1, q2⟩ := (hG.below hB).two
        rcases (show k = 0 ∨ k = 1 ∨ k = 2 by omega) with rfl | rfl | rfl
        · obtain rfl : zs = [] := hkz.out.1 rfl
          go_wp2_with (at_builtin; refine wpList_append_ints rfl (.tmp 31) (.tmp 32) rfl w.heap.size A1 c1 [] rfl own B1 d1 xs rfl (h1.below hB) (by simp; omega) hz xs rfl ?_; intro A3 c3 w3 own3 hg3 hb3)
          go_roundw
          case rel => exact ⟨1, A3, c3, xs, by omega, by go_num, rfl, hide (by simp), own3, hB.grown hg3 hz (fun q hq => (own.ge hq).1)⟩
          case measure => simp [intOf]
        · obtain rfl : zs = xs := hkz.out.2.1 rfl
          obtain ⟨us, hus⟩ : ∃ us, us = zs ++ ys := ⟨_, rfl⟩
          go_wp2_with (at_builtin; refine wpList_append_ints rfl (.tmp 31) (.tmp 32) rfl w.heap.size A1 c1 zs rfl own B2 d2 ys rfl (h2.below hB) (by omega) hz us hus ?_; intro A3 c3 w3 own3 hg3 hb3)
          go_roundw
          case rel => exact ⟨2, A3, c3, us, by omega, by go_num, by simp [hus], hide (by simp [hus]), own3, hB.grown hg3 hz (fun q hq => (own.ge hq).1)⟩
          case measure => simp [intOf]
        · have hzz := hide (hkz.out.2.2 rfl)
          go_wp2_with fail
          go_ret
          rw [← hzz.out]
          exact ⟨A1, c1, rfl, own, hB⟩

/-- a list that begins at an index, backwards if back is true -/
def turnX (xs : List Int) (a : Nat) (back : Bool) (k : Nat) : Int := xs.getD (if back = true then (a + xs.length - k) % xs.length else (a + k) % xs.length) 0
def turnL (xs : List Int) (a : Nat) (back : Bool) : List Int := (List.range xs.length).map (turnX xs a back)
def turnTo (xs : List Int) (a : Nat) (back : Bool) (m : Nat) : List Int := (List.range m).map (turnX xs a back)
theorem turnTo_next (xs : List Int) (a : Nat) (back : Bool) (m : Nat) : turnTo xs a back (m + 1) = turnTo xs a back m ++ [turnX xs a back m] := by
  unfold turnTo
  rw [List.range_succ, List.map_append]
  rfl
theorem turnTo_len (xs : List Int) (a : Nat) (back : Bool) (m : Nat) : (turnTo xs a back m).length = m := by simp [turnTo]
theorem tmod_nat (m n : Nat) (i : Int) (hi : i = (m : Int)) : Int.tmod i (n : Int) = ((m % n : Nat) : Int) := by
  subst hi
  rw [Int.tmod_eq_emod_of_nonneg (by omega), Int.natCast_emod]

set_option maxRecDepth 100000 in
set_option maxHeartbeats 2000000 in
theorem l15Turn_any (A : Option Addr) (c a : Nat) (back : Bool) (xs : List Int) (w : World) (h : RI w A xs) (hn : xs.length ≤ 1048576) (ha : a < xs.length) :
    Calls Try.prog 83 #[.slice A xs.length c, .int .i64 (a : Int), .bool back] w (RetI w (turnL xs a back)) := by
  have he : OwnI (w.alloc (.cells #[] 2)) w.heap.size (some ⟨w.heap.size, 0, none⟩) 0 [] := OwnI.empty w (Nat.le_refl _)
  have hn1 : ¬ ((xs.length : Int) = 0) := by omega
  cases back
  case false =>
    go_enter Try.func83, Try.ntmps83
    go_wp2_with fail
    go_loopw [8, 9] (fun o i wr => ∃ (k : Nat) (A1 : Option Addr) (c1 : Nat) (zs : List Int), k ≤ xs.length ∧ i = .int .i64 k ∧ o = .slice A1 zs.length c1 ∧ Hid (zs = turnTo xs a false k) ∧ OwnI wr w.heap.size A1 c1 zs ∧ Below w.heap.size w wr) (fun _ i _ => xs.length - (intOf i).toNat)
    case atStart => exact ⟨0, _, 0, [], Nat.zero_le _, rfl, rfl, hide rfl, he, (Below.refl _ _).alloc (Nat.le_refl _) _⟩
    case round =>
      clear he
      obtain ⟨k, A1, c1, zs, hk, rfl, rfl, hzs, own, hB⟩ := hrel
      have hz := hB.size
      have hzl : zs.length ≤ 1048576 := by rw [hzs.out, turnTo_len]; omega
      by_cases hlt : k < xs.length
      · have hrl : (a + k) % xs.length < xs.length := Nat.mod_lt _ (by omega)
        have t1 := tmod_nat (a + k) xs.length ((a : Int) + (k : Int)) (by omega)
        obtain ⟨r, hr⟩ : ∃ r, r = (a + k) % xs.length := ⟨_, rfl⟩
        rw [← hr] at t1 hrl
        obtain ⟨b, off, x, rfl, hb, hx, hcx⟩ := (h.below hB).at_ hrl
        have HN : Hid (zs ++ [x] = turnTo xs a false (k + 1)) := hide (by
          rw [turnTo_next, ← hzs.out]
          congr 2
          unfold turnX
          rw [if_neg (by simp), ← hr]
          exact (getD_at hx).symm)
        have hrI : (r : Int) < (xs.length : Int) := by omega
        clear hx hr
        go_wp2_with (at_builtin; refine wpList_append_ints rfl (.tmp 32) (.tmp 37) rfl w.heap.size A1 c1 zs rfl (own.alloc _) (some ⟨wr.heap.size, 0, none⟩) 1 [x] rfl (OwnI.new (base := 0) wr [x] #[.int .i64 x] rfl (Nat.zero_le _) (by simp [maxLen])).rd (by simp; omega) (by simp; omega) (zs ++ [x]) rfl ?_; intro A3 c3 w3 own3 hg3 hb3)
        go_roundw
        case rel => exact ⟨k + 1, A3, c3, zs ++ [x], by omega, by go_num, by simp, HN, own3, (hB.alloc hz _).grown hg3 (by simp; omega) (fun q hq => (own.ge hq).1)⟩
        case measure => simp [intOf]; omega
      · have hzs' := hzs.out
        rw [show k = xs.length by omega] at hzs'
        have HZ : Hid (zs = turnL xs a false) := hide hzs'
        clear hzs hzs'
        go_wp2_with fail
        go_ret
        rw [← HZ.out]
        exact ⟨A1, c1, rfl, own, hB⟩
  case true =>
    go_enter Try.func83, Try.ntmps83
    go_wp2_with fail
    go_loopw [8, 9] (fun o i wr => ∃ (k : Nat) (A1 : Option Addr) (c1 : Nat) (zs : List Int), k ≤ xs.length ∧ i = .int .i64 k ∧ o = .slice A1 zs.length c1 ∧ Hid (zs = turnTo xs a true k) ∧ OwnI wr w.heap.size A1 c1 zs ∧ Below w.heap.size w wr) (fun _ i _ => xs.length - (intOf i).toNat)
    case atStart => exact ⟨0, _, 0, [], Nat.zero_le _, rfl, rfl, hide rfl, he, (Below.refl _ _).alloc (Nat.le_refl _) _⟩
    case round =>
      clear he
      obtain ⟨k, A1, c1, zs, hk, rfl, rfl, hzs, own, hB⟩ := hrel
      have hz := hB.size
      have hzl : zs.length ≤ 1048576 := by rw [hzs.out, turnTo_len]; omega
      by_cases hlt : k < xs.length
      · have hrl : (a + xs.length - k) % xs.length < xs.length := Nat.mod_lt _ (by omega)
        have t1 := tmod_nat (a + xs.length - k) xs.length ((a : Int) - (k : Int) + (xs.length : Int)) (by omega)
        have t0 := tmod_nat (a + k) xs.length ((a : Int) + (k : Int)) (by omega)
        have w1 : IntKind.i64.wrap ((a : Int) - (k : Int)) = (a : Int) - (k : Int) := by rw [IntKind.wrap_i64]; omega
        have w2 : IntKind.i64.wrap ((a : Int) - (k : Int) + (xs.length : Int)) = (a : Int) - (k : Int) + (xs.length : Int) := by rw [IntKind.wrap_i64]; omega
        obtain ⟨r, hr⟩ : ∃ r, r = (a + xs.length - k) % xs.length := ⟨_, rfl⟩
        obtain ⟨r0, hr0⟩ : ∃ r, r = (a + k) % xs.length := ⟨_, rfl⟩
        rw [← hr] at t1 hrl
        rw [← hr0] at t0
        obtain ⟨b, off, x, rfl, hb, hx, hcx⟩ := (h.below hB).at_ hrl
        have HN : Hid (zs ++ [x] = turnTo xs a true (k + 1)) := hide (by
          rw [turnTo_next, ← hzs.out]
          congr 2
          unfold turnX
          rw [if_pos rfl, ← hr]
          exact (getD_at hx).symm)
        have hrI : (r : Int) < (xs.length : Int) := by omega
        clear hx hr hr0
        go_wp2_with (at_builtin; refine wpList_append_ints rfl (.tmp 32) (.tmp 37) rfl w.heap.size A1 c1 zs rfl (own.alloc _) (some ⟨wr.heap.size, 0, none⟩) 1 [x] rfl (OwnI.new (base := 0) wr [x] #[.int .i64 x] rfl (Nat.zero_le _) (by simp [maxLen])).rd (by simp; omega) (by simp; omega) (zs ++ [x]) rfl ?_; intro A3 c3 w3 own3 hg3 hb3)
        go_roundw
        case rel => exact ⟨k + 1, A3, c3, zs ++ [x], by omega, by go_num, by simp, HN, own3, (hB.alloc hz _).grown hg3 (by simp; omega) (fun q hq => (own.ge hq).1)⟩
        case measure => simp [intOf]; omega
      · have hzs' := hzs.out
        rw [show k = xs.length by omega] at hzs'
        have HZ : Hid (zs = turnL xs a true) := hide hzs'
        clear hzs hzs'
        go_wp2_with fail
        go_ret
        rw [← HZ.out]
        exact ⟨A1, c1, rfl, own, hB⟩

set_option maxRecDepth 100000 in
set_option maxHeartbeats 2000000 in
theorem turned_any (A : Option Addr) (c a : Nat) (xs : List Int) (w : World) (h : RI w A xs) (hn : xs.length ≤ 1048576) (ha : a < xs.length) (hc : xs.length ≤ c) (hc2 : c ≤ 9223372036854775807) :
    Calls Try.prog 87 #[.slice A xs.length c, .int .i64 (a : Int)] w (RetI w (xs.drop a ++ xs.take a)) := by
  obtain ⟨b, off, x, rfl, hb, hx, hcx⟩ := h.at_ (k := a) ha
  obtain ⟨p1, hp1⟩ : ∃ p1, p1 = xs.drop a := ⟨_, rfl⟩
  obtain ⟨p2, hp2⟩ : ∃ p2, p2 = xs.take a := ⟨_, rfl⟩
  have hl1 : Hid (p1.length = xs.length - a) := hide (by rw [hp1, List.length_drop])
  have hl2 : Hid (p2.length = a) := hide (by rw [hp2, List.length_take]; omega)
  have r1 : RI w (some ⟨b, off + a, none⟩) p1 := by
    have := h.drop_ a (c := c) hc
    rw [if_neg (by omega), ← hp1] at this
    simpa [Addr.add_lit] using this
  have r2 : RI w (some ⟨b, off, none⟩) p2 := by rw [hp2]; exact h.take_ a
  have g1 : (a : Int) ≤ (xs.length : Int) := by omega
  have g2 : (a : Int) ≤ (c : Int) := by omega
  have hca : ¬ c = a := by omega
  have hn1 : Hid (p1.length ≤ 1048576 ∧ p2.length ≤ 1048576) := hide (by rw [hl1.out, hl2.out]; omega)
  rw [← hp1, ← hp2]
  clear hp1 hp2 hx
  have hbx : ∀ (W : World) (n : Nat), n = W.heap.size → Bx (W.alloc (.cells #[.slice (some ⟨b, off + a, none⟩) (xs.length - a) (c - a), .slice (some ⟨b, off, none⟩) a c] 33)) n 33 #[.slice (some ⟨b, off + a, none⟩) p1.length (c - a), .slice (some ⟨b, off, none⟩) p2.length c] := fun W n e => by
    rw [hl1.out, hl2.out]
    exact Bx.new_ W n _ _ e
  go_enter Try.func87, Try.ntmps87
  go_wp2_with fail
  have C0 : Below w.heap.size w w.drew := (Below.refl _ _).drew
  have KW : Hid (∀ W, Below w.heap.size w W → W.cell? ⟨b, off + a, none⟩ = some (.int .i64 x)) := hide (fun W hW => (hW.cell (p := ⟨b, off + a, none⟩) hb).trans hcx)
  go_region_held3 (fun w' => w'.cell? ⟨b, off + a, none⟩ = some (.int .i64 x))
    (first | exact KW.out _ CE | exact KW.out _ C0 | exact KW.out _ (C0.alloc (by simp) _) | exact KW.out _ (((Below.refl w.heap.size w).alloc (Nat.le_refl _) _).drew) | exact KW.out _ ((Below.refl w.heap.size w).alloc (Nat.le_refl _) _) | exact KW.out _ (Below.refl _ _) | fail)
    (first
      | (go_at_call 113; refine (concat2_any w.heap.size _ _ _ _ p1 p2 _ ((hbx w _ rfl).drew) ((r1.alloc _).drew) ((r2.alloc _).drew) hn1.out.1 hn1.out.2).mono ?_; rintro e w2 ⟨A2, c2, rfl, own, hb2⟩; have CE := Below.trans (((Below.refl w.heap.size w).alloc (Nat.le_refl _) _).drew) (hb2.mono (by simp)))
      | (go_at_call 113; refine (concat2_any w.heap.size _ _ _ _ p1 p2 _ (hbx w.drew _ rfl) (r1.drew.alloc _) (r2.drew.alloc _) hn1.out.1 hn1.out.2).mono ?_; rintro e w2 ⟨A2, c2, rfl, own, hb2⟩; have CE := Below.trans (C0.alloc (by simp) _) (hb2.mono (by simp)))
      | fail)
  all_goals go_wp2_with fail
  all_goals go_ret
  all_goals exact ⟨A2, c2, by simp, own.mono (by simp), CE⟩
end Go.Proofs.Ytpgpchklmdhldaa
