/-
  Contracts: impl.TurnCurve and impl.BackCurve at a valid code with one curve. Conditions: none beyond the lengths.
  Contracts: the law's own dice: f6roll, below. Conditions: at most 1048576 bytes.
-/
import Derived.Test.YtnjojnnapdhijaaCmpM
import Derived.Test.YtnjojnnapdhijaaCopyM
import Derived.Test.YtnjojnnapdhijaaMoveMathM
import Derived.Test.YtnjojnnapdhijaaDrC
import Derived.Test.YtnjojnnapdhijaaLeastSM
import Derived.Test.YtnjojnnapdhijaaDraw
import Derived.Deep.RegionWith
namespace Go.Proofs.Ytnjojnnapdhijaa
open Go.RowKit
set_option linter.unusedVariables false

theorem curve_one {xs : List Int} (hv : validC [xs] = true) : curveC [xs] 0 = 0 := by
  unfold curveC
  rw [if_pos hv, if_pos (by rw [inB_true]; simp)]
theorem turnL_split {xs : List Int} {m : Nat} (h : m < xs.length) : xs.drop m ++ xs.take m = turnL xs m false := by
  apply List.ext_getElem?
  intro i
  unfold turnL turnX
  simp only [Bool.false_eq_true, if_false]
  by_cases hi : i < xs.length
  · rw [List.getElem?_map, List.getElem?_range hi, Option.map_some]
    by_cases h1 : i < xs.length - m
    · rw [List.getElem?_append_left (by rw [List.length_drop]; omega), List.getElem?_drop, Nat.mod_eq_of_lt (by omega), List.getD_eq_getElem?_getD, List.getElem?_eq_getElem (by omega : m + i < xs.length)]
      rfl
    · have e : (m + i) % xs.length = i - (xs.length - m) := by
        rw [show m + i = (i - (xs.length - m)) + xs.length by omega, Nat.add_mod_right, Nat.mod_eq_of_lt (by omega)]
      rw [List.getElem?_append_right (by rw [List.length_drop]; omega), List.length_drop, List.getElem?_take, if_pos (by omega), e, List.getD_eq_getElem?_getD, List.getElem?_eq_getElem (by omega : i - (xs.length - m) < xs.length)]
      rfl
  · rw [List.getElem?_eq_none (by simp; omega), List.getElem?_eq_none (by simp; omega)]

set_option maxRecDepth 100000 in
set_option maxHeartbeats 8000000 in
theorem implTurnOne_any (A : Option Addr) (c T a : Nat) (xs : List Int) (w : World) (hc : RC w T A [xs]) (hv : validC [xs] = true) (hn : 0 < xs.length) (ha : a ≤ 1000) :
    Calls Try.prog 30 #[.slice A 1 c, .int .i64 0, .int .i64 (a : Int)] w (RetCC w [turnL xs (a % xs.length) false] 0) := by
  have hr1 : RI (w.alloc (.cells #[.int .i64 0] 2)) (some ⟨w.heap.size, 0, none⟩) [0] := (OwnI.new (base := 0) w [0] #[.int .i64 0] rfl (Nat.zero_le _) (by simp [maxLen])).rd
  have hal : Below w.heap.size w (w.alloc (.cells #[.int .i64 0] 2)) := (Below.refl _ _).alloc (Nat.le_refl _) _
  have hca := hc.below hal
  obtain ⟨hs1, hs2, hs3⟩ := valid_sum hv
  have hs0 : sumLen [xs] = xs.length := sumLen_one xs
  rw [hs0] at hs2
  have hxl : xs.length ≤ 1000 := by omega
  have hnn : [xs].length + sumLen [xs] ≤ 1048576 := by rw [hs0]; simp; omega
  have HCC := hide (codedCode_one A (some ⟨w.heap.size, 0, none⟩) c 1 T [xs] 0 _ hca hr1 hnn)
  rw [curve_one hv] at HCC
  have HC := hide hc
  obtain ⟨m, hm⟩ : ∃ m, m = a % xs.length := ⟨_, rfl⟩
  have hml : m < xs.length := by rw [hm]; exact Nat.mod_lt _ hn
  have htm := tmod_nat a xs.length (a : Int) rfl
  rw [← hm] at htm ⊢
  have HSP := hide (turnL_split hml)
  have hin : inB (a : Int) 0 1000 = true := inB_true.2 (by omega)
  have hn0 : (0 : Int) < (xs.length : Int) := by omega
  have hn1 : ¬ ((xs.length : Int) = 0) := by omega
  have hn3 : ¬ (xs = []) := by intro e; rw [e] at hn; exact absurd hn (by simp)
  have hn2 : ((xs.length : Int) == 0) = false := by rw [beq_eq_false_iff_ne]; omega
  have HNN := hide hnn
  have hmi : (m : Int) < (xs.length : Int) := by omega
  clear hca hr1 hs1 hs2 hs3 hs0 hv hc hm hnn
  go_enter Try.func30, Try.ntmps30
  go_wp2_with fail
  refine HCC.out.mono ?_
  rintro e w1 ⟨rfl, hb1⟩
  have hB1 := hal.trans (hb1.mono hal.size)
  clear HCC
  go_wp2_with fail
  refine (inRange_any _ _ _ _).mono ?_
  rw [hin]
  rintro e w1' ⟨rfl, rfl⟩
  clear hin
  go_wp2_with fail
  refine (cloneCode_any A c T [xs] _ (HC.out.below hB1) HNN.out).mono ?_
  rintro e w2 ⟨A2, c2, rfl, own2, hb2⟩
  have hB2 := hB1.trans (hb2.mono hB1.size)
  have hz1 := hB1.size
  have hz2 := hb2.size
  obtain ⟨g, B, d, ys, rfl, hgb, hgt, hys, hc3, oR, hBT, SW⟩ := own2.swapRow (Nat.le_refl _) (k := 0) (by simp)
  obtain rfl : ys = xs := by simpa using hys.symm
  have hgs : g < w2.heap.size := hgt
  have hcap := oR.cap_
  have KW : Hid (∀ W, Below w2.heap.size w2 W → W.cell? ⟨g, 0, none⟩ = some (.slice B ys.length d)) := hide fun W hW => (hW.cell (p := ⟨g, 0, none⟩) hgs).trans hc3
  have HT := hide (fun (W : World) (hW : Below w2.heap.size w2 W) => turned_any B d m ys W (oR.rd.below hW) (by omega) hml hcap.1 hcap.2)
  obtain ⟨zs, hzs⟩ : ∃ zs, zs = ys.drop m ++ ys.take m := ⟨_, rfl⟩
  have hzl : Hid (zs.length = ys.length) := hide (by rw [hzs, List.length_append, List.length_drop, List.length_take]; omega)
  rw [← hzs] at HT HSP
  have HSW := hide SW
  have H2 := hide (And.intro hB2 hz1)
  have C0 : Below w2.heap.size w2 w2.drew := (Below.refl _ _).drew
  have hc3d : w2.drew.cell? ⟨g, 0, none⟩ = some (.slice B ys.length d) := hc3
  have hgd : g < w2.drew.heap.size := hgs
  clear SW oR hcap hB2 own2 hBT hys hzs
  go_wp2_with fail
  go_region_with
    (first
      | (go_at_call 76; refine (HT.out _ C0).mono ?_; rintro e w3 ⟨A3, c3, rfl, own3, hb3⟩; have CE := C0.trans (hb3.mono (Nat.le_refl _)); obtain ⟨q3, f3, O3⟩ := HSW.out w3 A3 c3 zs (gr_below (gr_refl w2 _) CE) (own3.mono (by simp; omega)) (.inr fun q hq => (own3.ge hq).1); have HO3 := hide O3; have hg3 : g < w3.heap.size := Nat.lt_of_lt_of_le hgs CE.size; clear O3 own3)
      | fail)
  all_goals go_wp2_with fail
  all_goals go_ret2
  all_goals exact ⟨some ⟨g, 0, none⟩, c2, rfl, by rw [← HSP.out]; exact HO3.out.mono H2.out.2 (by simp), (H2.out.1.trans (CE.mono H2.out.1.size)).setCell (by simp; omega) _⟩

set_option maxHeartbeats 8000000 in
theorem implTurnNil_any (A : Option Addr) (c T a : Nat) (w : World) (hc : RC w T A [[]]) (hv : validC [[]] = true) (ha : a ≤ 1000) :
    Calls Try.prog 30 #[.slice A 1 c, .int .i64 0, .int .i64 (a : Int)] w (RetCC w [[]] 0) := by
  have hr1 : RI (w.alloc (.cells #[.int .i64 0] 2)) (some ⟨w.heap.size, 0, none⟩) [0] := (OwnI.new (base := 0) w [0] #[.int .i64 0] rfl (Nat.zero_le _) (by simp [maxLen])).rd
  have hal : Below w.heap.size w (w.alloc (.cells #[.int .i64 0] 2)) := (Below.refl _ _).alloc (Nat.le_refl _) _
  have HCC := hide (codedCode_one A (some ⟨w.heap.size, 0, none⟩) c 1 T [[]] 0 _ (hc.below hal) hr1 (by decide))
  rw [curve_one hv] at HCC
  have HC := hide hc
  have hin : inB (a : Int) 0 1000 = true := inB_true.2 (by omega)
  clear hr1 hv hc
  go_enter Try.func30, Try.ntmps30
  go_wp2_with fail
  refine HCC.out.mono ?_
  rintro e w1 ⟨rfl, hb1⟩
  have hB1 := hal.trans (hb1.mono hal.size)
  clear HCC
  go_wp2_with fail
  refine (inRange_any _ _ _ _).mono ?_
  rw [hin]
  rintro e w1' ⟨rfl, rfl⟩
  clear hin
  go_wp2_with fail
  refine (cloneCode_any A c T [[]] _ (HC.out.below hB1) (by decide)).mono ?_
  rintro e w2 ⟨A2, c2, rfl, own2, hb2⟩
  have hB2 := hB1.trans (hb2.mono hB1.size)
  have hz1 := hB1.size
  obtain ⟨g, B, d, ys, rfl, hgb, hgt, hgs, hys, hc3, hf3, oR, hBT, SW⟩ := own2.row (k := 0) (by simp)
  obtain rfl : ys = [] := by simpa using hys.symm
  have HF := hide (And.intro (own2.mono hz1 (Nat.le_refl _)) hB2)
  clear SW oR hBT own2 hys hB2
  go_wp2_with fail
  go_ret2
  exact ⟨_, c2, rfl, HF.out.1, HF.out.2⟩

set_option maxRecDepth 100000 in
set_option maxHeartbeats 8000000 in
theorem implBackOne_any (A : Option Addr) (c T : Nat) (xs : List Int) (w : World) (hc : RC w T A [xs]) (hv : validC [xs] = true) :
    Calls Try.prog 33 #[.slice A 1 c, .int .i64 0] w (RetCC w [xs.reverse] 0) := by
  have hr1 : RI (w.alloc (.cells #[.int .i64 0] 2)) (some ⟨w.heap.size, 0, none⟩) [0] := (OwnI.new (base := 0) w [0] #[.int .i64 0] rfl (Nat.zero_le _) (by simp [maxLen])).rd
  have hal : Below w.heap.size w (w.alloc (.cells #[.int .i64 0] 2)) := (Below.refl _ _).alloc (Nat.le_refl _) _
  have hca := hc.below hal
  obtain ⟨hs1, hs2, hs3⟩ := valid_sum hv
  have hs0 : sumLen [xs] = xs.length := sumLen_one xs
  rw [hs0] at hs2
  have hxl : xs.length ≤ 1000 := by omega
  have hnn : [xs].length + sumLen [xs] ≤ 1048576 := by rw [hs0]; simp; omega
  have HCC := hide (codedCode_one A (some ⟨w.heap.size, 0, none⟩) c 1 T [xs] 0 _ hca hr1 hnn)
  rw [curve_one hv] at HCC
  have HC := hide hc
  have HNN := hide hnn
  clear hca hr1 hs1 hs2 hs3 hs0 hv hc hnn
  go_enter Try.func33, Try.ntmps33
  go_wp2_with fail
  refine HCC.out.mono ?_
  rintro e w1 ⟨rfl, hb1⟩
  have hB1 := hal.trans (hb1.mono hal.size)
  clear HCC
  go_wp2_with fail
  refine (cloneCode_any A c T [xs] _ (HC.out.below hB1) HNN.out).mono ?_
  rintro e w2 ⟨A2, c2, rfl, own2, hb2⟩
  have hB2 := hB1.trans (hb2.mono hB1.size)
  have hz1 := hB1.size
  have hz2 := hb2.size
  obtain ⟨g, B, d, ys, rfl, hgb, hgt, hgs, hys, hc3, hf3, oR, hBT, SW⟩ := own2.row (k := 0) (by simp)
  obtain rfl : ys = xs := by simpa using hys.symm
  have HSW := hide SW
  have H2 := hide (And.intro hB2 (And.intro hz1 fun (q : Nat) (hq : blk B = some q) => Nat.le_trans hz1 (oR.ge hq).1))
  clear SW hB2 own2 hBT hys
  go_wp2_with fail
  refine (slicesReverse_any B d w1.heap.size ys w2 oR (by omega) hz2).mono ?_
  rintro e w3 ⟨rfl, own3, hg3⟩
  have HF := hide (And.intro (HSW.out w3 ys.reverse List.length_reverse own3 hg3) (And.intro (H2.out.1.grown hg3 (by have := H2.out.1.size; omega) H2.out.2.2) hg3.size))
  clear own3 hg3 oR
  go_wp2_with fail
  go_ret2
  exact ⟨some ⟨g, 0, none⟩, c2, rfl, HF.out.1.mono H2.out.2.1 HF.out.2.2, HF.out.2.1⟩
end Go.Proofs.Ytnjojnnapdhijaa

namespace Go.Proofs.Ytnjojnnapdhijaa
open Go.RowKit
set_option linter.unusedVariables false

/-- dice: a block with the bytes, the place and the seed -/
def Dice (w : World) (b : Nat) (A : Option Addr) (c : Nat) (xs : List Int) : Prop :=
  ∃ z : Int, 0 ≤ z ∧ z ≤ 18446744073709551615 ∧ Bx w b 91 #[.slice A xs.length c, .int .i64 0, .int .u64 z] ∧ RB w A xs ∧ (0 < xs.length → blk A ≠ some b)
theorem seed24 {z : Int} (h0 : 0 ≤ z) (h1 : z ≤ 18446744073709551615) : 0 ≤ wrap64 (bits BinOp.and IntKind.u64 (z / 8589934592) 16777215) ∧ wrap64 (bits BinOp.and IntKind.u64 (z / 8589934592) 16777215) ≤ 16777215 := by
  obtain ⟨n, rfl⟩ : ∃ n : Nat, z = (n : Int) := ⟨z.toNat, by omega⟩
  have e : (n : Int) / 8589934592 = ((n / 8589934592 : Nat) : Int) := by simp
  have h2 : n / 8589934592 ≤ n := Nat.div_le_self _ _
  rw [e, show (16777215 : Int) = ((16777215 : Nat) : Int) from rfl, bits_and_u64_nat _ _ (by omega) (by omega)]
  have h3 : n / 8589934592 &&& 16777215 ≤ 16777215 := Nat.and_le_right
  unfold wrap64
  omega
theorem tmod20 {x : Int} (h : 0 ≤ x) : ∃ a : Nat, a < 20 ∧ Int.tmod x 20 = (a : Int) := by
  rw [Int.tmod_eq_emod_of_nonneg h]
  exact ⟨(x % 20).toNat, by omega, by omega⟩
theorem roll_end {y : Int} (h : 0 ≤ y) : ∃ a : Nat, a < 20 ∧ Value.int .i64 (Int.tmod y 20) = Value.int .i64 (a : Int) := by
  obtain ⟨a, ha, e⟩ := tmod20 h
  exact ⟨a, ha, by rw [e]⟩
theorem wrapu (z : Int) : 0 ≤ IntKind.u64.wrap z ∧ IntKind.u64.wrap z ≤ 18446744073709551615 := by
  rw [IntKind.wrap_u64]; omega

set_option maxRecDepth 20000 in
set_option maxHeartbeats 4000000 in
theorem f6roll_any (A : Option Addr) (c : Nat) (xs : List Int) (w : World) (h : RB w A xs) (hx : ∀ x ∈ xs, 0 ≤ x ∧ x ≤ 255) (hn : xs.length ≤ 1048576) :
    Calls Try.prog 31 #[.slice A xs.length c, .int .u64 1501] w fun e w' => e = .returned (.pointer (some ⟨w.heap.size, 0, none⟩)) ∧ Dice w' w.heap.size A c xs ∧ Below w.heap.size w w' := by
  have HX := hide hx
  have hne : 0 < xs.length → blk A ≠ some w.heap.size := fun h0 e => by have := rb_lt h h0 e; omega
  clear hx
  go_enter Try.func31, Try.ntmps31
  go_wp2_with fail
  go_loopw [6] (fun s6 wr => ∃ (k : Nat) (z : Int), k ≤ xs.length ∧ s6 = .int .i64 (k : Int) ∧ 0 ≤ z ∧ z ≤ 18446744073709551615 ∧ Bx wr w.heap.size 91 #[.slice A xs.length c, .int .i64 0, .int .u64 z] ∧ RB wr A xs ∧ Below w.heap.size w wr) (fun s6 _ => xs.length - (intOf s6).toNat)
  case atStart => exact ⟨0, 11886419 + (xs.length : Int), Nat.zero_le _, rfl, by omega, by omega, Bx.new w _ _, Rd.alloc h _, (Below.refl _ _).alloc (Nat.le_refl _) _⟩
  case round =>
    obtain ⟨k, z, hk, rfl, hz0, hz1, bx, rd, hB⟩ := hrel
    obtain ⟨ca, cb, cc⟩ := bx.three
    have f2 := bx.frozen 2
    by_cases hlt : k < xs.length
    · obtain ⟨g, off, x, rfl, hg, hxk, hgc⟩ := rd.at_ hlt
      have hlt2 : (k : Int) < (xs.length : Int) := by omega
      have hbl := bx.lt
      have HF := hide (And.intro bx (And.intro rd hB))
      clear hxk bx rd hB
      go_wp2_with fail
      go_region
      all_goals go_wp2_with fail
      all_goals go_roundw
      case rel => exact ⟨k + 1, _, by omega, by go_num, (wrapu _).1, (wrapu _).2, HF.out.1.set_ 2 _, rb_far HF.out.2.1 hne _, (HF.out.2.2.setCell (Nat.le_refl _) _).drew⟩
      case measure => simp [intOf]; omega
    · have hlt2 : ¬ ((k : Int) < (xs.length : Int)) := by omega
      go_wp2_with fail
      go_ret
      exact ⟨rfl, ⟨z, hz0, hz1, bx, rd, hne⟩, hB⟩

set_option maxRecDepth 20000 in
set_option maxHeartbeats 4000000 in
theorem below20_any (b : Nat) (A : Option Addr) (c : Nat) (xs : List Int) (w : World) (h : Dice w b A c xs) (hx : ∀ x ∈ xs, 0 ≤ x ∧ x ≤ 255) (hn : xs.length ≤ 1048576) :
    Calls Try.prog 32 #[.pointer (some ⟨b, 0, none⟩), .int .i64 20] w fun e w' => ∃ a : Nat, a < 20 ∧ e = .returned (.int .i64 (a : Int)) ∧ w.grownBy w' (some b) := by
  obtain ⟨z, hz0, hz1, bx, rd, hne⟩ := h
  obtain ⟨ca, cb, cc⟩ := bx.three
  have f1 := bx.frozen 1
  have f2 := bx.frozen 2
  by_cases hlt : 0 < xs.length
  · obtain ⟨g, off, x, rfl, hg, hxk, hgc⟩ := rd.at_ hlt
    have hxb := hx x (List.mem_of_getElem? hxk)
    have hlt2 : (0 : Int) < (xs.length : Int) := by omega
    have hgb : g ≠ b := fun e => hne hlt (by rw [← e]; rfl)
    have hgc0 : w.cell? ⟨g, off, none⟩ = some (.int .u8 x) := hgc
    go_enter Try.func32, Try.ntmps32
    go_wp2_with fail
    go_quiet (fail)
    go_wp2_with fail
    go_quiet (fail)
    go_wp2_with fail
    go_ret
    have hZ := seed24 (z := IntKind.u64.wrap (IntKind.u64.wrap (z * 6364136223846793005) + 1442695040888963407)) (wrapu _).1 (wrapu _).2
    obtain ⟨a, ha, e⟩ := roll_end (y := wrap64 (wrap64 (bits BinOp.and IntKind.u64 (IntKind.u64.wrap (IntKind.u64.wrap (z * 6364136223846793005) + 1442695040888963407) / 8589934592) 16777215) + x)) (by
      revert hZ
      generalize wrap64 (bits BinOp.and IntKind.u64 (IntKind.u64.wrap (IntKind.u64.wrap (z * 6364136223846793005) + 1442695040888963407) / 8589934592) 16777215) = s
      intro hZ
      unfold wrap64
      omega)
    exact ⟨a, ha, by rw [← e]; rfl, by repeat (first | exact gr_refl _ _ | apply gr_drewN | apply gr_set_)⟩
  · have hlt2 : ¬ ((0 : Int) < (xs.length : Int)) := by omega
    go_enter Try.func32, Try.ntmps32
    go_wp2_with fail
    go_quiet (fail)
    go_wp2_with fail
    go_ret
    have hZ := seed24 (z := IntKind.u64.wrap (IntKind.u64.wrap (z * 6364136223846793005) + 1442695040888963407)) (wrapu _).1 (wrapu _).2
    obtain ⟨a, ha, e⟩ := roll_end hZ.1
    exact ⟨a, ha, by rw [← e]; rfl, by repeat (first | exact gr_refl _ _ | apply gr_drewN | apply gr_set_)⟩
end Go.Proofs.Ytnjojnnapdhijaa
