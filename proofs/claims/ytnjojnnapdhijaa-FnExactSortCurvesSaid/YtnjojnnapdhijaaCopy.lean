/-
  Contracts: cloneCode, l14Copy. Conditions: none beyond the lengths.
-/
import Derived.Test.YtnjojnnapdhijaaRen
import Derived.Test.YtnjojnnapdhijaaApp
namespace Go.Proofs.Ytnjojnnapdhijaa
open Go.RowKit
set_option linter.unusedVariables false

set_option maxRecDepth 100000 in
set_option maxHeartbeats 2000000 in
theorem cloneCode_any (A : Option Addr) (c T : Nat) (code : List (List Int)) (w : World) (hc : RC w T A code) (hn : code.length + sumLen code ≤ 1048576) :
    Calls Try.prog 80 #[.slice A code.length c] w (RetC w code) := by
  have he : OwnC (w.alloc (.cells #[] 34)) w.heap.size (w.alloc (.cells #[] 34)).heap.size (some ⟨w.heap.size, 0, none⟩) 0 [] := (OwnC.empty_ w _ rfl (Nat.le_refl _)).mono (Nat.le_refl _) (by simp)
  go_enter Try.func80, Try.ntmps80
  go_wp2_with fail
  go_loopw [3, 9] (fun o i wr => ∃ (k : Nat) (A1 : Option Addr) (c1 : Nat) (zs : List (List Int)), k ≤ code.length ∧ i = .int .i64 k ∧ o = .slice A1 zs.length c1 ∧ Hid (zs = code.take k) ∧ OwnC wr w.heap.size wr.heap.size A1 c1 zs ∧ Below w.heap.size w wr) (fun _ i _ => code.length - (intOf i).toNat)
  case atStart => exact ⟨0, _, 0, [], Nat.zero_le _, rfl, rfl, hide rfl, he, (Below.refl _ _).alloc (Nat.le_refl _) _⟩
  case round =>
    clear he
    obtain ⟨k, A1, c1, zs, hk, rfl, rfl, hzs, own, hB⟩ := hrel
    have hz := hB.size
    have hcr := hc.below hB
    have hzl : zs.length ≤ 1048576 := by rw [hzs.out, List.length_take]; omega
    by_cases hlt : k < code.length
    · obtain ⟨b, off, B, d, xs, rfl, hb, hx, hcc, hd1, hd2, hR⟩ := hcr.row hlt
      have hxl := sumLen_row hx
      have HZ : Hid (zs ++ [xs] = code.take (k + 1)) := hide (by rw [List.take_add_one, hx, ← hzs.out]; rfl)
      clear hx hd1 hd2
      go_wp2_with fail
      refine (slicesClone_any _ _ xs _ hR (by omega)).mono ?_
      rintro e w2 ⟨B2, d2, rfl, orow, hb2⟩
      have own2 := own.below hb2
      have hB2 := hB.trans (hb2.mono hz)
      have hz2 := hb2.size
      go_wp2_with (at_builtin; refine wpList_append_code rfl (.tmp 13) (.tmp 16) rfl w.heap.size wr.heap.size A1 c1 zs rfl (own2.alloc _) (some ⟨w2.heap.size, 0, none⟩) 1 rfl B2 d2 xs (RG.fresh (E := hdE) w2 _ rfl ⟨B2, xs.length, d2⟩ #[.slice B2 xs.length d2] rfl _) (orow.alloc _) hz (by simp; omega) hzl (zs ++ [xs]) rfl ?_; intro A3 c3 w3 own3 hg3 hb3)
      go_roundw
      case rel => exact ⟨k + 1, A3, c3, zs ++ [xs], by omega, by go_num, by simp, HZ, own3, (hB2.alloc (by omega) _).grown hg3 (by simp; omega) (fun q hq => (own2.ge_ hq).1)⟩
      case measure => simp [intOf]; omega
    · have hzs' := hzs.out
      rw [List.take_of_length_le (by omega)] at hzs'
      have HZ := hide hzs'
      clear hzs hzs'
      go_wp2_with fail
      go_ret
      have := HZ.out
      subst this
      exact ⟨A1, c1, rfl, own, hB⟩
set_option maxRecDepth 100000 in
set_option maxHeartbeats 2000000 in
theorem l14Copy_any (A : Option Addr) (c T : Nat) (code : List (List Int)) (w : World) (hc : RC w T A code) (hn : code.length + sumLen code ≤ 1048576) :
    Calls Try.prog 101 #[.slice A code.length c] w (RetC w code) := by
  have he : OwnC (w.alloc (.cells #[] 34)) w.heap.size (w.alloc (.cells #[] 34)).heap.size (some ⟨w.heap.size, 0, none⟩) 0 [] := (OwnC.empty_ w _ rfl (Nat.le_refl _)).mono (Nat.le_refl _) (by simp)
  go_enter Try.func101, Try.ntmps101
  go_wp2_with fail
  go_loopw [3, 4] (fun o i wr => ∃ (k : Nat) (A1 : Option Addr) (c1 : Nat) (zs : List (List Int)), k ≤ code.length ∧ i = .int .i64 k ∧ o = .slice A1 zs.length c1 ∧ Hid (zs = code.take k) ∧ OwnC wr w.heap.size wr.heap.size A1 c1 zs ∧ Below w.heap.size w wr) (fun _ i _ => code.length - (intOf i).toNat)
  case atStart => exact ⟨0, _, 0, [], Nat.zero_le _, rfl, rfl, hide rfl, he, (Below.refl _ _).alloc (Nat.le_refl _) _⟩
  case round =>
    clear he
    obtain ⟨k, A1, c1, zs, hk, rfl, rfl, hzs, own, hB⟩ := hrel
    have hz := hB.size
    have hcr := hc.below hB
    have hzl : zs.length ≤ 1048576 := by rw [hzs.out, List.length_take]; omega
    by_cases hlt : k < code.length
    · obtain ⟨b, off, B, d, xs, rfl, hb, hx, hcc, hd1, hd2, hR⟩ := hcr.row hlt
      have hxl := sumLen_row hx
      have HZ : Hid (zs ++ [xs] = code.take (k + 1)) := hide (by rw [List.take_add_one, hx, ← hzs.out]; rfl)
      clear hx hd1 hd2
      go_wp2_with fail
      refine (l00Own_any _ _ xs _ hR (by omega)).mono ?_
      rintro e w2 ⟨B2, d2, rfl, orow, hb2⟩
      have own2 := own.below hb2
      have hB2 := hB.trans (hb2.mono hz)
      have hz2 := hb2.size
      go_wp2_with (at_builtin; refine wpList_append_code rfl (.tmp 12) (.tmp 18) rfl w.heap.size wr.heap.size A1 c1 zs rfl (own2.alloc _) (some ⟨w2.heap.size, 0, none⟩) 1 rfl B2 d2 xs (RG.fresh (E := hdE) w2 _ rfl ⟨B2, xs.length, d2⟩ #[.slice B2 xs.length d2] rfl _) (orow.alloc _) hz (by simp; omega) hzl (zs ++ [xs]) rfl ?_; intro A3 c3 w3 own3 hg3 hb3)
      go_roundw
      case rel => exact ⟨k + 1, A3, c3, zs ++ [xs], by omega, by go_num, by simp, HZ, own3, (hB2.alloc (by omega) _).grown hg3 (by simp; omega) (fun q hq => (own2.ge_ hq).1)⟩
      case measure => simp [intOf]; omega
    · have hzs' := hzs.out
      rw [List.take_of_length_le (by omega)] at hzs'
      have HZ := hide hzs'
      clear hzs hzs'
      go_wp2_with fail
      go_ret
      have := HZ.out
      subst this
      exact ⟨A1, c1, rfl, own, hB⟩
end Go.Proofs.Ytnjojnnapdhijaa
