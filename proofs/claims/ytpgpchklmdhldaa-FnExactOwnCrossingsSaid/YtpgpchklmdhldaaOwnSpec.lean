/-
  Contract: OwnCrossings, of the reference. Conditions: none beyond the lengths.
-/
import Derived.Test.YtpgpchklmdhldaaCodeIn
import Derived.Test.YtpgpchklmdhldaaContains
import Derived.Test.YtpgpchklmdhldaaRet
namespace Go.Proofs.Ytpgpchklmdhldaa
open Go.RowKit
set_option linter.unusedVariables false

def ownB (xs : List Int) (k : Nat) : Bool := hasB xs ((k : Int) + 1) && hasB xs (-((k : Int) + 1))
/-- the numbers below m of the crossings that a curve meets twice -/
def ownL (xs : List Int) (m : Nat) : List Int := ((List.range m).filter (ownB xs)).map Int.ofNat
theorem ownL_yes {xs : List Int} {k : Nat} (h : ownB xs k = true) : ownL xs (k + 1) = ownL xs k ++ [(k : Int)] := by
  unfold ownL
  rw [List.range_succ, List.filter_append, List.map_append]
  simp [h]
theorem ownL_no {xs : List Int} {k : Nat} (h : ownB xs k = false) : ownL xs (k + 1) = ownL xs k := by
  unfold ownL
  rw [List.range_succ, List.filter_append, List.map_append]
  simp [h]
theorem ownL_len (xs : List Int) (m : Nat) : (ownL xs m).length ≤ m := by
  unfold ownL
  rw [List.length_map]
  have := List.length_filter_le (ownB xs) (List.range m)
  rw [List.length_range] at this
  exact this

set_option maxRecDepth 100000 in
set_option maxHeartbeats 4000000 in
theorem specOwn_yes (A : Option Addr) (c T : Nat) (code : List (List Int)) (jn : Nat) (xs : List Int) (w : World) (hc : RC w T A code) (hn : code.length + sumLen code ≤ 1048576) (hj : code[jn]? = some xs) (hx : xs.length ≤ 1048576) (h0 : curveC code (jn : Int) = 0) :
    Calls Try.prog 33 #[.slice A code.length c, .int .i64 (jn : Int)] w (RetIC w (ownL xs (sumLen code / 2)) 0) := by
  have hjl : jn < code.length := (List.getElem?_eq_some_iff.1 hj).1
  have HC0 := hide h0
  obtain ⟨M, hM⟩ : ∃ M, M = sumLen code / 2 := ⟨_, rfl⟩
  have hMl : M ≤ 1048576 := by omega
  have HM := hide hM
  go_enter Try.func33, Try.ntmps33
  go_wp2_with fail
  refine (l15Code_any _ _ T code _ _ hc hn).mono ?_
  rw [h0]
  rintro e w1 ⟨rfl, hb1⟩
  have hc1 := hc.below hb1
  have he : OwnI (w1.alloc (.cells #[] 2)) w.heap.size (some ⟨w1.heap.size, 0, none⟩) 0 [] := OwnI.new w1 [] #[] rfl hb1.size (by simp)
  clear h0 hM
  go_wp2_with fail
  go_loopw [7, 8] (fun o i wr => ∃ (k : Nat) (A1 : Option Addr) (c1 : Nat) (zs : List Int), k ≤ M ∧ i = .int .i64 ((k : Int) + 1) ∧ o = .slice A1 zs.length c1 ∧ Hid (zs = ownL xs k) ∧ OwnI wr w.heap.size A1 c1 zs ∧ Below w.heap.size w wr) (fun _ i _ => M + 1 - (intOf i).toNat)
  case atStart => exact ⟨0, _, 0, [], Nat.zero_le _, by go_num, rfl, hide rfl, he, hb1.alloc hb1.size _⟩
  case round =>
    obtain ⟨k, A1, c1, zs, hk, rfl, rfl, hzs, own, hB⟩ := hrel
    clear he
    have hz := hB.size
    have hcr := hc.below hB
    have hzl : zs.length ≤ k := by rw [hzs.out]; exact ownL_len _ _
    by_cases hlt : k < M
    · obtain ⟨n, hnk⟩ : ∃ n : Int, n = (k : Int) + 1 := ⟨_, rfl⟩
      have hg : n ≤ ((sumLen code / 2 : Nat) : Int) := by have := HM.out; omega
      have wp : IntKind.i64.wrap (n + 1) = n + 1 := by rw [IntKind.wrap_i64]; omega
      obtain ⟨b, off, B, d, ys, rfl, hb, hy, hcc, hd1, hd2, hR⟩ := hcr.row hjl
      obtain rfl : xs = ys := by rw [hj] at hy; injection hy
      have hj0 : (0 : Int) ≤ (jn : Int) := by omega
      have hjc : (jn : Int) < (code.length : Int) := by omega
      have wn : IntKind.i64.wrap (-n) = -n := by rw [IntKind.wrap_i64]; omega
      have wm : IntKind.i64.wrap (n - 1) = (k : Int) := by rw [IntKind.wrap_i64]; omega
      have HNK := hide hnk
      rw [← hnk]
      clear hy hnk
      cases h1 : hasB xs n
      · have HN : Hid (zs = ownL xs (k + 1)) := hide (by rw [ownL_no (by unfold ownB; rw [← HNK.out, h1]; rfl)]; exact hzs.out)
        go_wp2_with (first | (go_at_call 73; refine (l15Many_any _ _ T code _ hcr hn).mono ?_; rintro e w' ⟨rfl, rfl⟩) | (go_at_call 93; refine (l00Has_any _ _ xs _ _ hR hx).mono ?_; rintro e w' ⟨rfl, rfl⟩))
        go_roundw
        case rel => exact ⟨k + 1, A1, c1, zs, by omega, by rw [HNK.out]; go_num, rfl, HN, own, hB⟩
        case measure => have := HNK.out; simp [intOf]; omega
      · cases h2 : hasB xs (-n)
        · have HN : Hid (zs = ownL xs (k + 1)) := hide (by rw [ownL_no (by unfold ownB; rw [← HNK.out, h1, h2]; rfl)]; exact hzs.out)
          go_wp2_with (first | (go_at_call 73; refine (l15Many_any _ _ T code _ hcr hn).mono ?_; rintro e w' ⟨rfl, rfl⟩) | (go_at_call 93; refine (l00Has_any _ _ xs _ _ hR hx).mono ?_; rintro e w' ⟨rfl, rfl⟩))
          go_roundw
          case rel => exact ⟨k + 1, A1, c1, zs, by omega, by rw [HNK.out]; go_num, rfl, HN, own, hB⟩
          case measure => have := HNK.out; simp [intOf]; omega
        · have HN : Hid (zs ++ [(k : Int)] = ownL xs (k + 1)) := hide (by rw [ownL_yes (by unfold ownB; rw [← HNK.out, h1, h2]; rfl), hzs.out])
          have hr1 : RI (wr.alloc (.cells #[.int .i64 (k : Int)] 2)) (some ⟨wr.heap.size, 0, none⟩) [(k : Int)] := (OwnI.new (base := w.heap.size) wr [(k : Int)] #[.int .i64 (k : Int)] rfl hz (by simp [maxLen])).rd
          go_wp2_with (first | (go_at_call 73; refine (l15Many_any _ _ T code _ hcr hn).mono ?_; rintro e w' ⟨rfl, rfl⟩) | (go_at_call 93; refine (l00Has_any _ _ xs _ _ hR hx).mono ?_; rintro e w' ⟨rfl, rfl⟩) | (at_builtin; refine wpList_append_ints rfl (.tmp 37) (.tmp 40) rfl w.heap.size A1 c1 zs rfl (own.alloc _) _ 1 [(k : Int)] rfl hr1 (by simp; omega) (by simp; omega) _ rfl ?_; intro A2 c2 w2 own2 hg2 hb2))
          go_roundw
          case rel => exact ⟨k + 1, A2, c2, _, by omega, by rw [HNK.out]; go_num, by simp, HN, own2, (hB.alloc hz _).grown hg2 (by simp; omega) (fun k hk => (own.ge hk).1)⟩
          case measure => have := HNK.out; simp [intOf]; omega
    · have hzs' := hzs.out
      rw [show k = M by omega] at hzs'
      have hg : ¬ ((k : Int) + 1 ≤ ((sumLen code / 2 : Nat) : Int)) := by have := HM.out; omega
      have HZ : Hid (zs = ownL xs (sumLen code / 2)) := hide (by rw [hzs', HM.out])
      clear hzs hzs'
      go_wp2_with (go_at_call 73; refine (l15Many_any _ _ T code _ hcr hn).mono ?_; rintro e w' ⟨rfl, rfl⟩)
      refine bodyPost_ret (v := .tuple #[.slice A1 zs.length c1, .int .i64 0]) (by simp [results, Try.results33, go_sem]) rfl ?_
      rw [← HZ.out]
      exact ⟨A1, c1, rfl, own, hB⟩
end Go.Proofs.Ytpgpchklmdhldaa
