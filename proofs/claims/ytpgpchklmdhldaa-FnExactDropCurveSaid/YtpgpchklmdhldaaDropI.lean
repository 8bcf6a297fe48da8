/-
  Contract: DropCurve, of the program. Conditions: none beyond the lengths.
-/
import Derived.Test.YtpgpchklmdhldaaDelete
import Derived.Test.YtpgpchklmdhldaaWith
import Derived.Test.YtpgpchklmdhldaaRenI
import Derived.Test.YtpgpchklmdhldaaCodeIn2
namespace Go.Proofs.Ytpgpchklmdhldaa
open Go.RowKit
set_option linter.unusedVariables false

def cutAt (d : List (List Int)) (n : Nat) : List (List Int) := d.take n ++ d.drop (n + 1)
def dropC (code : List (List Int)) (n : Nat) : List (List Int) := withoutC (fun k : Nat => hasB ((code.getD n []).map crI) (k : Int)) code
def dropR (code : List (List Int)) (j : Int) : List (List Int) × Int := if curveC code j = 0 then (cutAt (dropC code j.toNat) j.toNat, 0) else ([], curveC code j)
theorem cutAt_len (d : List (List Int)) (n : Nat) : (cutAt d n).length ≤ d.length ∧ sumLen (cutAt d n) ≤ sumLen d := by
  unfold cutAt
  constructor
  · rw [List.length_append, List.length_take, List.length_drop]
    omega
  · have e : d = d.take n ++ d.drop n := (List.take_append_drop n d).symm
    have h1 : sumLen (d.drop (n + 1)) ≤ sumLen (d.drop n) := by
      cases h : d.drop n with
      | nil =>
        have : d.drop (n + 1) = [] := by rw [List.drop_eq_nil_iff] at h ⊢; omega
        rw [this]
        exact Nat.le_refl _
      | cons r t =>
        have : d.drop (n + 1) = t := by rw [← List.drop_drop, h]; rfl
        rw [this]
        unfold sumLen
        rw [List.map_cons, List.sum_cons]
        omega
    have h2 : sumLen d = sumLen (d.take n) + sumLen (d.drop n) := by
      conv => lhs; rw [e]
      exact sumLen_app _ _
    rw [sumLen_app, h2]
    omega
theorem withoutC_size (g : Nat → Bool) (code : List (List Int)) : (withoutC g code).length = code.length ∧ sumLen (withoutC g code) ≤ sumLen code := ⟨renC_length _ _, renC_sum _ _⟩
theorem dropR_len (code : List (List Int)) (j : Int) (hn : code.length + sumLen code ≤ 1048576) : (dropR code j).1.length + sumLen (dropR code j).1 ≤ 1048576 := by
  unfold dropR
  split
  · have h1 := cutAt_len (dropC code j.toNat) j.toNat
    have h2 := withoutC_size (fun k : Nat => hasB ((code.getD j.toNat []).map crI) (k : Int)) code
    unfold dropC at h1 ⊢
    dsimp only
    omega
  · simp [sumLen]
theorem curveC_zeroD {code : List (List Int)} {j : Int} (h : curveC code j = 0) : validC code = true ∧ ∃ n : Nat, j = (n : Int) ∧ n < code.length := by
  unfold curveC at h
  split at h
  · rename_i hv
    split at h
    · rename_i hi
      obtain ⟨h1, h2⟩ := inB_true.1 hi
      exact ⟨hv, j.toNat, by omega, by omega⟩
    · cases h
  · cases h
set_option maxRecDepth 100000 in
set_option maxHeartbeats 4000000 in
theorem implDrop_any (A : Option Addr) (c T : Nat) (code : List (List Int)) (j : Int) (w : World) (hc : RC w T A code) (hn : code.length + sumLen code ≤ 1048576) :
    Calls Try.prog 28 #[.slice A code.length c, .int .i64 j] w (RetCC w (dropR code j).1 (dropR code j).2) := by
  have hr1 : RI (w.alloc (.cells #[.int .i64 j] 2)) (some ⟨w.heap.size, 0, none⟩) [j] := (OwnI.new (base := 0) w [j] #[.int .i64 j] rfl (Nat.zero_le _) (by simp [maxLen])).rd
  have ha : Below w.heap.size w (w.alloc (.cells #[.int .i64 j] 2)) := (Below.refl _ _).alloc (Nat.le_refl _) _
  have hca := hc.below ha
  by_cases h0 : curveC code j = 0
  · obtain ⟨hv, n, rfl, hjl⟩ := curveC_zeroD h0
    obtain ⟨hs1, hs2, hs3⟩ := valid_sum hv
    obtain ⟨b, off, B, d, ys, rfl, hb, hxs, hce0, hd1, hd2, hr0⟩ := hc.row hjl
    have hxl := sumLen_row hxs
    have HV : Hid (dropR code (n : Int) = (cutAt (withoutC (fun k : Nat => hasB (ys.map crI) (k : Int)) code) n, 0)) := hide (by
      unfold dropR dropC
      rw [if_pos h0, show (n : Int).toNat = n by omega, getD_row hxs])
    have HW := hide (valid_wide hv)
    have HX := hide hxs
    have hjI : (n : Int) < (code.length : Int) := by omega
    clear hv hxs hs3 hd1 hd2
    go_enter Try.func28, Try.ntmps28
    go_wp2_with fail
    refine (codedCode_one _ _ _ _ T code _ _ hca hr1 hn).mono ?_
    rw [h0]
    rintro e w1 ⟨rfl, hb1⟩
    have hB1 := ha.trans (hb1.mono ha.size)
    have hz1 := hB1.size
    have he : OwnI (w1.alloc (.cells #[] 2)) w.heap.size (some ⟨w1.heap.size, 0, none⟩) 0 [] := OwnI.empty w1 hz1
    have hB1' := hB1.alloc hz1 (.cells #[] 2)
    have hce := (hB1'.cell (p := ⟨b, off + n, none⟩) hb).trans hce0
    clear h0 hce0
    go_wp2_with fail
    go_loopw [7, 23] (fun o i wr => ∃ (k : Nat) (A1 : Option Addr) (c1 : Nat) (zs : List Int), k ≤ ys.length ∧ i = .int .i64 k ∧ o = .slice A1 zs.length c1 ∧ Hid (zs = (ys.take k).map crI) ∧ OwnI wr w.heap.size A1 c1 zs ∧ Below w.heap.size w wr) (fun _ i _ => ys.length - (intOf i).toNat)
    case atStart => exact ⟨0, _, 0, [], Nat.zero_le _, rfl, rfl, hide (by simp), he, hB1'⟩
    case round =>
      clear he hB1' hce
      obtain ⟨k, A1, c1, zs, hk, rfl, rfl, hzs, own, hB⟩ := hrel
      have hr := hr0.below hB
      have hz := hB.size
      have hzl : zs.length ≤ k := by rw [hzs.out, List.length_map, List.length_take]; omega
      by_cases hlt : k < ys.length
      · obtain ⟨b2, off2, x, rfl, hb2, hx, hcx⟩ := hr.at_ hlt
        obtain ⟨g5, g6⟩ := HW.out ys (List.mem_of_getElem? HX.out) x (List.mem_of_getElem? hx)
        obtain ⟨cr, hcr⟩ : ∃ cr, cr = crI x := ⟨_, rfl⟩
        have HC := hide hcr
        have HN : Hid (zs ++ [cr] = (ys.take (k + 1)).map crI) := hide (by rw [List.take_add_one, hx, List.map_append, ← hzs.out, hcr]; rfl)
        clear hx hcr
        go_wp2_with (first
          | (go_at_call 80; refine (crossingOf_any _ _ g5 g6).mono ?_; rw [← HC.out]; rintro e w' ⟨rfl, rfl⟩)
          | (at_builtin; refine wpList_append_ints rfl (.tmp 27) (.tmp 30) rfl w.heap.size A1 c1 zs rfl (own.alloc _) (some ⟨wr.heap.size, 0, none⟩) 1 [cr] rfl (OwnI.new (base := 0) wr [cr] #[.int .i64 cr] rfl (Nat.zero_le _) (by simp [maxLen])).rd (by simp; omega) (by simp; omega) (zs ++ [cr]) rfl ?_; intro A3 c3 w3 own3 hg3 hb3))
        have hB3 := (hB.alloc hz (.cells #[.int .i64 cr] 2)).grown hg3 (by simp; omega) (fun q hq => (own.ge hq).1)
        go_roundw
        case rel => exact ⟨k + 1, A3, c3, zs ++ [cr], by omega, by go_num, by simp, HN, own3, hB3⟩
        case measure => simp [intOf]; omega
      · have hzs' := hzs.out
        rw [List.take_of_length_le (by omega)] at hzs'
        have HZ : Hid (withoutC (fun k : Nat => hasB (ys.map crI) (k : Int)) code = withoutC (fun k : Nat => hasB zs (k : Int)) code) := hide (by rw [hzs'])
        have hzl2 : zs.length ≤ 1048576 := by omega
        clear hzs hzs'
        go_wp2_with fail
        refine (without_any _ _ T _ _ zs code _ (hc.below hB) own.rd hzl2 hn HW.out).mono ?_
        obtain ⟨dd, hdd⟩ : ∃ dd, dd = withoutC (fun k : Nat => hasB zs (k : Int)) code := ⟨_, rfl⟩
        have hdl : Hid (dd.length = code.length) := hide (by rw [hdd]; exact (withoutC_size _ _).1)
        have HD := hide hdd
        rw [← hdd]
        rintro e w2 ⟨A2, c2, rfl, own2, hb2⟩
        have hB2 := hB.trans (hb2.mono hz)
        have hz2 := hB2.size
        have wn1 : IntKind.i64.wrap ((n : Int) + 1) = (n : Int) + 1 := by rw [IntKind.wrap_i64]; omega
        clear hdd
        go_wp2_with fail
        refine (delete_any _ _ _ _ n dd _ own2 (by have := hdl.out; omega) (by have := hdl.out; omega)).mono ?_
        rintro e w3 ⟨rfl, own3, hg3⟩
        have hB3 := hB2.grown hg3 hz2 (fun q hq => by have := (own2.ge_ hq).1; omega)
        have hs3 := hg3.size
        go_wp2_with fail
        refine bodyPost_ret (v := .tuple #[.slice A2 (dd.take n ++ dd.drop (n + 1)).length c2, .int .i64 0]) (by simp [results, Try.results28, go_sem]) rfl ?_
        rw [HV.out, HZ.out, ← HD.out]
        exact ⟨A2, c2, rfl, own3.mono hz hs3, hB3⟩
  · obtain ⟨q, hq⟩ : ∃ q, q = curveC code j := ⟨_, rfl⟩
    have HV : Hid (dropR code j = ([], q)) := hide (by unfold dropR; rw [if_neg h0, hq])
    have hq0 : (q != 0) = true := by rw [hq]; simpa using h0
    clear h0
    go_enter Try.func28, Try.ntmps28
    go_wp2_with fail
    refine (codedCode_one _ _ _ _ T code _ _ hca hr1 hn).mono ?_
    rw [← hq]
    rintro e w1 ⟨rfl, hb1⟩
    have hB1 := ha.trans (hb1.mono ha.size)
    clear hq
    go_wp2_with fail
    refine bodyPost_ret (v := .tuple #[.slice none 0 0, .int .i64 q]) (by simp [results, Try.results28, go_sem]) rfl ?_
    rw [HV.out]
    exact ⟨none, 0, rfl, OwnC.nil _ _ _, hB1⟩
end Go.Proofs.Ytpgpchklmdhldaa
