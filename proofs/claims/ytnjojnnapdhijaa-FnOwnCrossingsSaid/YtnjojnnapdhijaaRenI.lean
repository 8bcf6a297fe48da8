/-
  Contracts: RenameCode, of the program and of the reference. Conditions: none beyond the lengths.
-/
import Derived.Test.YtnjojnnapdhijaaRenS
import Derived.Test.YtnjojnnapdhijaaMoveMath
import Derived.Test.YtnjojnnapdhijaaRet
namespace Go.Proofs.Ytnjojnnapdhijaa
open Go.RowKit
set_option linter.unusedVariables false

set_option maxRecDepth 100000 in
set_option maxHeartbeats 4000000 in
theorem renameCode_any (A : Option Addr) (c T : Nat) (code : List (List Int)) (w : World) (hc : RC w T A code) (hn : code.length + sumLen code ≤ 1048576)
    (hI : ∀ xs ∈ code, ∀ x ∈ xs, -9223372036854775808 < x ∧ x ≤ 9223372036854775807) :
    Calls Try.prog 70 #[.slice A code.length c] w (RetC w (renameC code)) := by
  have hmm := @run_makeMap Try.prog
  have HI := hide hI
  have hlen : ∀ l, l = numsL code.flatten → l.length ≤ 1048576 := fun l e => by
    have := numsL_len code.flatten
    rw [flatten_len] at this
    rw [e]
    omega
  have HLEN := hide hlen
  clear hI hlen
  go_enter Try.func70, Try.ntmps70
  go_wp2_with fail
  go_loopw [13] (fun s5 wr => ∃ (i : Nat) (l : List (Int × Int)), i ≤ code.length ∧ s5 = .int .i64 i ∧ Hid (l = numsL (upTo code i 0)) ∧ Mp nmE wr w.heap.size l ∧ Below w.heap.size w wr) (fun s5 _ => code.length - (intOf s5).toNat)
  case atStart => exact ⟨0, [], Nat.zero_le _, rfl, hide (by rw [upTo_zero]; rfl), Mp.made w _ rfl, (Below.refl _ _).alloc (Nat.le_refl _) _⟩
  case round =>
    clear hmm
    obtain ⟨i, l, hi, rfl, hl, hmp, hB⟩ := hrel
    obtain ⟨wo, rfl⟩ : ∃ wo : World, wo = wr := ⟨_, rfl⟩
    by_cases hlt : i < code.length
    · obtain ⟨b, off, B, d, xs, rfl, hb, hx, hce, hd1, hd2, hr⟩ := hc.row hlt
      have hce1 := (hB.cell (p := ⟨b, off + i, none⟩) hb).trans hce
      have hxl := sumLen_row hx
      have HX := hide hx
      clear hx hd1 hd2
      go_wp2_with fail
      go_loopw [19] (fun s6 wr => ∃ (k : Nat) (l : List (Int × Int)), k ≤ xs.length ∧ s6 = .int .i64 k ∧ Hid (l = numsL (upTo code i k)) ∧ Mp nmE wr w.heap.size l ∧ Below w.heap.size w wr) (fun s6 _ => xs.length - (intOf s6).toNat)
      case atStart => exact ⟨0, l, Nat.zero_le _, rfl, hl, hmp, hB⟩
      case round =>
        clear hl hmp hce1 hB
        obtain ⟨k, l, hk, rfl, hl, hmp, hB⟩ := hrel
        have hr2 := hr.below hB
        have hz := hB.size
        by_cases hkl : k < xs.length
        · obtain ⟨b2, off2, x, rfl, hb2, hx, hcx⟩ := hr2.at_ hkl
          obtain ⟨i1, i2⟩ := HI.out xs (List.mem_of_getElem? HX.out) x (List.mem_of_getElem? hx)
          have hnx : numsL (upTo code i (k + 1)) = numStep l (crI x) := by rw [upTo_next HX.out hx, numsL_snoc, ← hl.out]
          cases hlx : l.lookup (crI x) with
          | none =>
            have HL : Hid (l ++ [(crI x, (l.length : Int))] = numsL (upTo code i (k + 1))) := hide (by rw [hnx]; unfold numStep; rw [if_pos hlx])
            obtain ⟨k0, k1⟩ := hmp.look_nm (x := crI x) (v := 0) (o := false) (by rw [hlx]; rfl) (by rw [hlx]; rfl)
            have hln : (Builtin.len_ #[120] 3 #[.map (some w.heap.size)]).run Try.prog wr = .ok (.int .i64 (l.length : Int)) wr := hmp.len _
            have HN := hide hlx
            clear hx hlx hnx
            go_wp2_with (first
              | (go_at_call 85; refine (crossingOf_any _ _ i1 i2).mono ?_; rintro e w' ⟨rfl, rfl⟩)
              | (at_mapUpdate; refine wpList_put rfl (.tmp 32) (.tmp 34) (.tmp 36) nmE rfl w.heap.size l rfl hmp (crI x) rfl (l.length : Int) rfl HN.out ?_; intro w2 hmp2 hg2))
            go_roundw
            case rel => exact ⟨k + 1, _, by omega, by go_num, HL, hmp2, hB.grown hg2 hz (fun k hk => by injection hk with hk; omega)⟩
            case measure => simp [intOf]; omega
          | some v =>
            have HL : Hid (l = numsL (upTo code i (k + 1))) := hide (by rw [hnx]; unfold numStep; rw [if_neg (by rw [hlx]; simp)])
            obtain ⟨k0, k1⟩ := hmp.look_nm (x := crI x) (v := v) (o := true) (by rw [hlx]; rfl) (by rw [hlx]; rfl)
            clear hx hlx hnx
            go_wp2_with (go_at_call 85; refine (crossingOf_any _ _ i1 i2).mono ?_; rintro e w' ⟨rfl, rfl⟩)
            go_roundw
            case rel => exact ⟨k + 1, l, by omega, by go_num, HL, hmp, hB⟩
            case measure => simp [intOf]; omega
        · have HL : Hid (l = numsL (upTo code (i + 1) 0)) := hide (by rw [← upTo_row (k := k) HX.out (by omega)]; exact hl.out)
          go_wp2_with fail
          go_roundw
          case rel => exact ⟨i + 1, l, by omega, by go_num, HL, hmp, hB⟩
          case measure => simp [intOf]; omega
    · have hl' := hl.out
      rw [upTo_all (by omega)] at hl'
      have HL := hide hl'
      have HV : Hid (renC (numF l) code = renameC code) := hide (by unfold renameC; rw [hl'])
      have HB : Hid (∀ c v, l.lookup c = some v → 0 ≤ v ∧ v ≤ 1048576) := hide (fun c v hcv => by
        have h1 := numsL_ok code.flatten
        rw [← hl'] at h1
        have h2 := h1 c v hcv
        have h3 := HLEN.out l hl'
        omega)
      clear hl hl'
      go_wp2_with fail
      refine (renamed_any _ _ T _ l code _ (hc.below hB) hn hmp HI.out HB.out).mono ?_
      rw [HV.out]
      rintro e w2 ⟨A2, c2, rfl, own, hb2⟩
      have hB2 := hB.trans (hb2.mono hB.size)
      have hzz := hB.size
      go_wp2_with fail
      go_ret
      exact ⟨A2, c2, rfl, own.mono hzz (Nat.le_refl _), hB2⟩

def renR (code : List (List Int)) : List (List Int) × Int := if validC code = true then (renameC code, 0) else ([], 1)
theorem renR_len (code : List (List Int)) (hn : code.length + sumLen code ≤ 1048576) : (renR code).1.length + sumLen (renR code).1 ≤ 1048576 := by
  unfold renR
  split
  · have h1 := renC_sum (numF (numsL code.flatten)) code
    have h2 := renC_length (numF (numsL code.flatten)) code
    unfold renameC
    dsimp only
    omega
  · simp [sumLen]
theorem valid_ints {code : List (List Int)} (hv : validC code = true) : ∀ xs ∈ code, ∀ x ∈ xs, x ≠ 0 ∧ -((sumLen code / 2 : Nat) : Int) ≤ x ∧ x ≤ ((sumLen code / 2 : Nat) : Int) := fun xs hxs x hx => by
  obtain ⟨N, h1, h2, h3, h4⟩ := validC_true hv
  have e : sumLen code / 2 = N := by omega
  rw [e]
  exact h4.2 x (List.mem_flatten.2 ⟨xs, hxs, hx⟩)
theorem valid_wide {code : List (List Int)} (hv : validC code = true) : ∀ xs ∈ code, ∀ x ∈ xs, -9223372036854775808 < x ∧ x ≤ 9223372036854775807 := fun xs hxs x hx => by
  obtain ⟨N, h1, h2, h3, h4⟩ := validC_true hv
  have := h4.2 x (List.mem_flatten.2 ⟨xs, hxs, hx⟩)
  omega
theorem implRename_any (A : Option Addr) (c T : Nat) (code : List (List Int)) (w : World) (hc : RC w T A code) (hn : code.length + sumLen code ≤ 1048576) :
    Calls Try.prog 21 #[.slice A code.length c] w (RetCC w (renR code).1 (renR code).2) := by
  cases hv : validC code
  · have HV : Hid (renR code = ([], 1)) := hide (by unfold renR; rw [if_neg (by rw [hv]; simp)])
    go_enter Try.func21, Try.ntmps21
    go_wp2_with fail
    refine (validCode_any _ _ T code _ hc hn).mono ?_
    rw [hv]
    rintro e w1 ⟨rfl, hb1⟩
    go_wp2_with fail
    refine bodyPost_ret (v := .tuple #[.slice none 0 0, .int .i64 1]) (by simp [results, Try.results21, go_sem]) rfl ?_
    rw [HV.out]
    exact ⟨none, 0, rfl, OwnC.nil _ _ _, hb1⟩
  · have HV : Hid (renR code = (renameC code, 0)) := hide (by unfold renR; rw [if_pos hv])
    have hv2 := hide (valid_wide hv)
    obtain ⟨zs, hzs⟩ : ∃ zs, zs = renameC code := ⟨_, rfl⟩
    have HZ := hide hzs
    go_enter Try.func21, Try.ntmps21
    go_wp2_with fail
    refine (validCode_any _ _ T code _ hc hn).mono ?_
    rw [hv]
    rintro e w1 ⟨rfl, hb1⟩
    clear hv
    go_wp2_with fail
    refine (renameCode_any _ _ T code _ (hc.below hb1) hn hv2.out).mono ?_
    rw [← hzs]
    rintro e w2 ⟨A2, c2, rfl, own, hb2⟩
    have hB := hb1.trans (hb2.mono hb1.size)
    clear hzs
    go_wp2_with fail
    refine bodyPost_ret (v := .tuple #[.slice A2 zs.length c2, .int .i64 0]) (by simp [results, Try.results21, go_sem]) rfl ?_
    rw [HV.out, ← HZ.out]
    exact ⟨A2, c2, rfl, own.mono hb1.size (Nat.le_refl _), hB⟩
theorem specRename_any (A : Option Addr) (c T : Nat) (code : List (List Int)) (w : World) (hc : RC w T A code) (hn : code.length + sumLen code ≤ 1048576) :
    Calls Try.prog 22 #[.slice A code.length c] w (RetCC w (renR code).1 (renR code).2) := by
  cases hv : validC code
  · have HV : Hid (renR code = ([], 1)) := hide (by unfold renR; rw [if_neg (by rw [hv]; simp)])
    go_enter Try.func22, Try.ntmps22
    go_wp2_with fail
    refine (l14Ok_any _ _ T code _ hc hn).mono ?_
    rw [hv]
    rintro e w1 ⟨rfl, hb1⟩
    go_wp2_with fail
    refine bodyPost_ret (v := .tuple #[.slice none 0 0, .int .i64 1]) (by simp [results, Try.results22, go_sem]) rfl ?_
    rw [HV.out]
    exact ⟨none, 0, rfl, OwnC.nil _ _ _, hb1⟩
  · have HV : Hid (renR code = (renameC code, 0)) := hide (by unfold renR; rw [if_pos hv])
    have hv2 := hide (valid_ints hv)
    have hv3 := hide (valid_sum hv).2.2
    obtain ⟨zs, hzs⟩ : ∃ zs, zs = renameC code := ⟨_, rfl⟩
    have HZ := hide hzs
    go_enter Try.func22, Try.ntmps22
    go_wp2_with fail
    refine (l14Ok_any _ _ T code _ hc hn).mono ?_
    rw [hv]
    rintro e w1 ⟨rfl, hb1⟩
    clear hv
    go_wp2_with fail
    refine (l15Rename_any _ _ T code _ (hc.below hb1) hn hv3.out hv2.out).mono ?_
    rw [← hzs]
    rintro e w2 ⟨A2, c2, rfl, own, hb2⟩
    have hB := hb1.trans (hb2.mono hb1.size)
    clear hzs
    go_wp2_with fail
    refine bodyPost_ret (v := .tuple #[.slice A2 zs.length c2, .int .i64 0]) (by simp [results, Try.results22, go_sem]) rfl ?_
    rw [HV.out, ← HZ.out]
    exact ⟨A2, c2, rfl, own.mono hb1.size (Nat.le_refl _), hB⟩
end Go.Proofs.Ytnjojnnapdhijaa
