/-
  Contracts: OwnCrossings, of the program and of the reference. Conditions: none beyond the lengths.
-/
import Derived.Test.YtpgpchklmdhldaaSort
import Derived.Test.YtpgpchklmdhldaaOwnMath
import Derived.Test.YtpgpchklmdhldaaOwnSpec2
import Derived.Test.YtpgpchklmdhldaaCodeIn2
import Derived.Test.YtpgpchklmdhldaaRenI
namespace Go.Proofs.Ytpgpchklmdhldaa
open Go.RowKit
set_option linter.unusedVariables false

def ownTo (xs : List Int) (k : Nat) : List Int := ((xs.take k).filter fun x => decide (0 < x) && hasB xs (-x)).map fun x => x - 1
theorem ownTo_next {xs : List Int} {k : Nat} {x : Int} (hx : xs[k]? = some x) : ownTo xs (k + 1) = ownTo xs k ++ (if (decide (0 < x) && hasB xs (-x)) = true then [x - 1] else []) := by
  unfold ownTo
  rw [List.take_add_one, hx]
  exact ownI_snoc _ _ _
theorem ownTo_len (xs : List Int) (k : Nat) : (ownTo xs k).length ≤ k := by
  unfold ownTo
  rw [List.length_map]
  have h1 := List.length_filter_le (fun x => decide (0 < x) && hasB xs (-x)) (xs.take k)
  rw [List.length_take] at h1
  omega
theorem ownTo_all {xs : List Int} {k : Nat} (h : xs.length ≤ k) : ownTo xs k = ownI xs := by
  unfold ownTo ownI
  rw [List.take_of_length_le h]

set_option maxRecDepth 100000 in
set_option maxHeartbeats 4000000 in
theorem implOwn_any (A : Option Addr) (c : Nat) (xs : List Int) (w : World) (h : RI w A xs) (hn : xs.length ≤ 1048576) (hb0 : ∀ x ∈ xs, -9223372036854775808 < x ∧ x ≤ 9223372036854775807) :
    Calls Try.prog 94 #[.slice A xs.length c] w (RetI w ((ownI xs).mergeSort fun x y => decide (x ≤ y))) := by
  have HB := hide hb0
  have he : OwnI (w.alloc (.cells #[] 2)) w.heap.size (some ⟨w.heap.size, 0, none⟩) 0 [] := OwnI.empty w (Nat.le_refl _)
  clear hb0
  go_enter Try.func94, Try.ntmps94
  go_wp2_with fail
  go_loopw [3, 9] (fun o i wr => ∃ (k : Nat) (A1 : Option Addr) (c1 : Nat) (zs : List Int), k ≤ xs.length ∧ i = .int .i64 k ∧ o = .slice A1 zs.length c1 ∧ Hid (zs = ownTo xs k) ∧ OwnI wr w.heap.size A1 c1 zs ∧ Below w.heap.size w wr) (fun _ i _ => xs.length - (intOf i).toNat)
  case atStart => exact ⟨0, _, 0, [], Nat.zero_le _, rfl, rfl, hide (by simp [ownTo]), he, (Below.refl _ _).alloc (Nat.le_refl _) _⟩
  case round =>
    clear he
    obtain ⟨k, A1, c1, zs, hk, rfl, rfl, hzs, own, hB⟩ := hrel
    have hz := hB.size
    have hr := h.below hB
    have hzl : zs.length ≤ k := by rw [hzs.out]; exact ownTo_len _ _
    by_cases hlt : k < xs.length
    · obtain ⟨b, off, x, rfl, hb, hx, hcx⟩ := hr.at_ hlt
      obtain ⟨g5, g6⟩ := HB.out x (List.mem_of_getElem? hx)
      have hnx := ownTo_next hx
      have wn : IntKind.i64.wrap (-x) = -x := by rw [IntKind.wrap_i64]; omega
      by_cases hx0 : 0 < x
      · have wm : IntKind.i64.wrap (x - 1) = x - 1 := by rw [IntKind.wrap_i64]; omega
        cases hh : hasB xs (-x)
        · have HN : Hid (zs = ownTo xs (k + 1)) := hide (by rw [hnx, hh, if_neg (by simp), List.append_nil]; exact hzs.out)
          clear hx hnx
          go_wp2_with (go_at_call 112; refine (slContains_any _ _ xs _ _ hr hn).mono ?_; rw [hh]; rintro e w' ⟨rfl, rfl⟩)
          go_roundw
          case rel => exact ⟨k + 1, A1, c1, zs, by omega, by go_num, rfl, HN, own, hB⟩
          case measure => simp [intOf]; omega
        · have HN : Hid (zs ++ [x - 1] = ownTo xs (k + 1)) := hide (by rw [hnx, hh, if_pos (by simp [hx0]), ← hzs.out])
          clear hx hnx
          go_wp2_with (first
            | (go_at_call 112; refine (slContains_any _ _ xs _ _ hr hn).mono ?_; rw [hh]; rintro e w' ⟨rfl, rfl⟩)
            | (at_builtin; refine wpList_append_ints rfl (.tmp 21) (.tmp 24) rfl w.heap.size A1 c1 zs rfl (own.alloc _) (some ⟨wr.heap.size, 0, none⟩) 1 [x - 1] rfl (OwnI.new (base := 0) wr [x - 1] #[.int .i64 (x - 1)] rfl (Nat.zero_le _) (by simp [maxLen])).rd (by simp; omega) (by simp; omega) (zs ++ [x - 1]) rfl ?_; intro A3 c3 w3 own3 hg3 hb3))
          go_roundw
          case rel => exact ⟨k + 1, A3, c3, zs ++ [x - 1], by omega, by go_num, by simp, HN, own3, (hB.alloc hz _).grown hg3 (by simp; omega) (fun q hq => (own.ge hq).1)⟩
          case measure => simp [intOf]; omega
      · have HN : Hid (zs = ownTo xs (k + 1)) := hide (by rw [hnx, if_neg (by simp [hx0]), List.append_nil]; exact hzs.out)
        clear hx hnx
        go_wp2_with fail
        go_roundw
        case rel => exact ⟨k + 1, A1, c1, zs, by omega, by go_num, rfl, HN, own, hB⟩
        case measure => simp [intOf]; omega
    · have hzs' := hzs.out
      rw [ownTo_all (by omega)] at hzs'
      have HZ := hide hzs'
      have hzl2 : zs.length ≤ 1048576 := by omega
      have hml : (zs.mergeSort fun x y => decide (x ≤ y)).length = zs.length := List.length_mergeSort zs
      have HML := hide hml
      clear hzs hzs' hml
      go_wp2_with fail
      refine (sort_any _ _ _ zs _ own hzl2).mono ?_
      rintro e w2 ⟨rfl, own2, hg2⟩
      have hB2 := hB.grown hg2 hz (fun q hq => (own.ge hq).1)
      go_wp2_with fail
      go_ret
      rw [← HZ.out]
      exact ⟨A1, c1, congrArg (fun n => Ending.returned (Value.slice A1 n c1)) HML.out.symm, own2, hB2⟩

def ownR (code : List (List Int)) (j : Int) : List Int × Int := if curveC code j = 0 then (ownL (code.getD j.toNat []) (sumLen code / 2), 0) else ([], curveC code j)
theorem ownR_len (code : List (List Int)) (j : Int) (hn : code.length + sumLen code ≤ 1048576) : (ownR code j).1.length ≤ 1048576 := by
  unfold ownR
  split
  · have := ownL_len (code.getD j.toNat []) (sumLen code / 2)
    dsimp only
    omega
  · simp
theorem curveC_zero' {code : List (List Int)} {j : Int} (h : curveC code j = 0) : validC code = true ∧ ∃ n : Nat, j = (n : Int) ∧ n < code.length := by
  unfold curveC at h
  split at h
  · rename_i hv
    split at h
    · rename_i hi
      obtain ⟨h1, h2⟩ := inB_true.1 hi
      exact ⟨hv, j.toNat, by omega, by omega⟩
    · cases h
  · cases h
theorem implOwnCrossings_any (A : Option Addr) (c T : Nat) (code : List (List Int)) (j : Int) (w : World) (hc : RC w T A code) (hn : code.length + sumLen code ≤ 1048576) :
    Calls Try.prog 34 #[.slice A code.length c, .int .i64 j] w (RetIC w (ownR code j).1 (ownR code j).2) := by
  have hr1 : RI (w.alloc (.cells #[.int .i64 j] 2)) (some ⟨w.heap.size, 0, none⟩) [j] := (OwnI.new (base := 0) w [j] #[.int .i64 j] rfl (Nat.zero_le _) (by simp [maxLen])).rd
  have ha : Below w.heap.size w (w.alloc (.cells #[.int .i64 j] 2)) := (Below.refl _ _).alloc (Nat.le_refl _) _
  have hca := hc.below ha
  by_cases h0 : curveC code j = 0
  · obtain ⟨hv, n, rfl, hjl⟩ := curveC_zero' h0
    have hxs : code[n]? = some code[n] := List.getElem?_eq_getElem hjl
    have HW := hide (valid_wide hv code[n] (List.getElem_mem hjl))
    obtain ⟨zs, hzs⟩ : ∃ zs, zs = (ownI code[n]).mergeSort fun x y => decide (x ≤ y) := ⟨_, rfl⟩
    have HV : Hid (ownR code (n : Int) = (zs, 0)) := hide (by
      unfold ownR
      rw [if_pos h0, show (n : Int).toNat = n by omega, getD_row hxs, hzs, ownI_sorted hv hxs])
    have HX := hide hxs
    have HZ := hide hzs
    clear hv hxs hzs
    go_enter Try.func34, Try.ntmps34
    go_wp2_with fail
    refine (codedCode_one _ _ _ _ T code _ _ hca hr1 hn).mono ?_
    rw [h0]
    rintro e w1 ⟨rfl, hb1⟩
    have hB1 := ha.trans (hb1.mono ha.size)
    obtain ⟨b, off, B, d, ys, rfl, hb, hy, hce, hd1, hd2, hr⟩ := (hc.below hB1).row hjl
    obtain rfl : ys = code[n] := by have := HX.out; rw [hy] at this; injection this
    have hxl := sumLen_row hy
    have hlt : (n : Int) < (code.length : Int) := by omega
    have hz1 := hB1.size
    clear hy h0
    go_wp2_with fail
    refine (implOwn_any _ _ _ _ hr (by omega) HW.out).mono ?_
    rw [← HZ.out]
    rintro e w2 ⟨A2, c2, rfl, own, hb2⟩
    have hB2 := hB1.trans (hb2.mono hz1)
    go_wp2_with fail
    refine bodyPost_ret (v := .tuple #[.slice A2 zs.length c2, .int .i64 0]) (by simp [results, Try.results34, go_sem]) rfl ?_
    rw [HV.out]
    exact ⟨A2, c2, rfl, own.mono hz1, hB2⟩
  · obtain ⟨q, hq⟩ : ∃ q, q = curveC code j := ⟨_, rfl⟩
    have HV : Hid (ownR code j = ([], q)) := hide (by unfold ownR; rw [if_neg h0, hq])
    have hq0 : (q != 0) = true := by rw [hq]; simpa using h0
    clear h0
    go_enter Try.func34, Try.ntmps34
    go_wp2_with fail
    refine (codedCode_one _ _ _ _ T code _ _ hca hr1 hn).mono ?_
    rw [← hq]
    rintro e w1 ⟨rfl, hb1⟩
    have hB1 := ha.trans (hb1.mono ha.size)
    clear hq
    go_wp2_with fail
    refine bodyPost_ret (v := .tuple #[.slice none 0 0, .int .i64 q]) (by simp [results, Try.results34, go_sem]) rfl ?_
    rw [HV.out]
    exact ⟨none, 0, rfl, OwnI.nil _ _, hB1⟩
theorem specOwnCrossings_any (A : Option Addr) (c T : Nat) (code : List (List Int)) (j : Int) (w : World) (hc : RC w T A code) (hn : code.length + sumLen code ≤ 1048576) :
    Calls Try.prog 33 #[.slice A code.length c, .int .i64 j] w (RetIC w (ownR code j).1 (ownR code j).2) := by
  by_cases h0 : curveC code j = 0
  · obtain ⟨hv, n, rfl, hjl⟩ := curveC_zero' h0
    have hxs : code[n]? = some code[n] := List.getElem?_eq_getElem hjl
    have hxl := sumLen_row hxs
    have e : ownR code (n : Int) = (ownL code[n] (sumLen code / 2), 0) := by
      unfold ownR
      rw [if_pos h0, show (n : Int).toNat = n by omega, getD_row hxs]
    rw [e]
    exact specOwn_yes A c T code n code[n] w hc hn hxs (by omega) h0
  · have e : ownR code j = ([], curveC code j) := by unfold ownR; rw [if_neg h0]
    rw [e]
    exact specOwn_no A c T code j w hc hn h0
end Go.Proofs.Ytpgpchklmdhldaa
