/-
  Contracts: LoopMoves, of the reference and of the program. Conditions: none beyond the lengths.
-/
import Derived.Test.YtocellbhpjiioaaGreatFollow
import Derived.Test.YtocellbhpjiioaaGreatCodeInM
import Derived.Test.YtocellbhpjiioaaGreatRetM
namespace Go.Proofs.YtocellbhpjiioaaGreat
open Go.RowKit
set_option linter.unusedVariables false

theorem followV_any (A : Option Addr) (c T mb : Nat) (l : List (Int × Int × Int)) (code : List (List Int)) (x y : Int) (w : World) (hc : RC w T A code) (hmp : Mp plE w mb l) (hl : ∀ x, l.lookup x = placeOf code x)
    (hv : validC code = true) (hx : x ∈ code.flatten) (hy : y ∈ code.flatten) (hxy : x ≠ y) :
    Calls Tryz.prog 70 #[.slice A code.length c, .map (some mb), .int .i64 x, .int .i64 y] w (RetV w (.bool (nextC code x y))) := by
  have ha := valid_apart' hv
  obtain ⟨hs1, hs2, hs3⟩ := valid_sum hv
  obtain ⟨i, k, xs, hi, hk, p1⟩ := apart_of_mem ha hx
  obtain ⟨j, m, ys, hj, hm, p2⟩ := apart_of_mem ha hy
  have h1 := (List.getElem?_eq_some_iff.1 hk).1
  have h2 := (List.getElem?_eq_some_iff.1 hm).1
  have h3 := sumLen_row hj
  have e1 : plc code x = ((i : Int), (k : Int)) := by unfold plc; rw [p1]; rfl
  have e2 : plc code y = ((j : Int), (m : Int)) := by unfold plc; rw [p2]; rfl
  have := follow_any A c T mb l code x y w i k j m xs hc (by omega) hmp hl e1 e2 hi h1 (by omega)
  rw [fol_next ha hi hk hj hm hxy] at this
  exact this
theorem OwnI.mp_ne {α : Type} {E : Me α} {w : World} {base b : Nat} {l : List (Int × α)} {A : Option Addr} {c : Nat} {xs : List Int} (h : OwnI w base A c xs) (hm : Mp E w b l) : some b ≠ blk A := hm.own_ne (intE_own.2 h)
theorem valid_at {code : List (List Int)} (hv : validC code = true) {k : Nat} (hk : k < sumLen code / 2) : ((k : Int) + 1) ∈ code.flatten ∧ (-(k : Int) - 1) ∈ code.flatten :=
  ⟨valid_has hv (by omega) (by omega) (by omega), valid_has hv (by omega) (by omega) (by omega)⟩

def loopsR (code : List (List Int)) : List Int × Int := if validC code = true then (loopsL code (sumLen code / 2), 0) else ([], 1)
theorem loopsR_len (code : List (List Int)) (hn : code.length + sumLen code ≤ 1048576) : (loopsR code).1.length ≤ 1048576 := by
  unfold loopsR
  split
  · have := loopsL_len code (sumLen code / 2)
    dsimp only
    omega
  · simp

set_option maxRecDepth 100000 in
set_option maxHeartbeats 4000000 in
theorem implLoops_any (A : Option Addr) (c T : Nat) (code : List (List Int)) (w : World) (hc : RC w T A code) (hv : validC code = true) :
    Calls Tryz.prog 55 #[.slice A code.length c] w (RetI w (loopsL code (sumLen code / 2))) := by
  obtain ⟨hs1, hs2, hs3⟩ := valid_sum hv
  obtain ⟨N, hNe⟩ : ∃ N, N = sumLen code / 2 := ⟨_, rfl⟩
  have hNl : N ≤ 120 := by omega
  have HNE := hide hNe
  have e1 : (sumLen code : Int) / 2 = (N : Int) := by omega
  have hn : code.length + sumLen code ≤ 1048576 := by omega
  have he : OwnI (w.alloc (.cells #[] 2)) w.heap.size (some ⟨w.heap.size, 0, none⟩) 0 [] := OwnI.empty w (Nat.le_refl _)
  have hc0 := hc.alloc (.cells #[] 2)
  have hb0 : Below w.heap.size w (w.alloc (.cells #[] 2)) := (Below.refl _ _).alloc (Nat.le_refl _) _
  clear hNe hs3
  go_enter Tryz.func55, Tryz.ntmps55
  go_wp2_with fail
  refine (places_any _ _ T code _ hc0 hn).mono ?_
  rintro e w1 ⟨mb, l, rfl, hmb, hmp, hl, hb1⟩
  have he1 := he.below hb1
  have hB1 := hb0.trans (hb1.mono hb0.size)
  have hc1 := hc.below hB1
  have HL := hl
  clear he hc0 hb0
  go_wp2_with (go_at_call 68; refine (countCoded_any _ _ T code _ hc1 hn).mono ?_; rintro e w' ⟨rfl, rfl⟩)
  go_loopw [3, 11] (fun o i wr => ∃ (k : Nat) (A1 : Option Addr) (c1 : Nat) (zs : List Int), k ≤ N ∧ i = .int .i64 (k : Int) ∧ o = .slice A1 zs.length c1 ∧ Hid (zs = loopsL code k) ∧ OwnI wr w.heap.size A1 c1 zs ∧ Mp plE wr mb l ∧ Below w.heap.size w wr) (fun _ i _ => N - (intOf i).toNat)
  case atStart => exact ⟨0, _, 0, [], Nat.zero_le _, rfl, rfl, hide rfl, he1, hmp, hB1⟩
  case round =>
    clear hmp he1 hb1 hB1 hc1
    obtain ⟨k, A1, c1, zs, hk, rfl, rfl, hzs, own, hmp, hB⟩ := hrel
    have hz := hB.size
    have hcr := hc.below hB
    have hzl : zs.length ≤ k := by rw [hzs.out]; exact loopsL_len _ _
    by_cases hlt : k < N
    · have hat := valid_at hv (k := k) (by have := HNE.out; omega)
      have v1 : IntKind.i64.wrap ((k : Int) + 1) = (k : Int) + 1 := by rw [IntKind.wrap_i64]; omega
      have v2 : IntKind.i64.wrap (-(k : Int)) = -(k : Int) := by rw [IntKind.wrap_i64]; omega
      have v3 : IntKind.i64.wrap (-(k : Int) - 1) = -(k : Int) - 1 := by rw [IntKind.wrap_i64]; omega
      have hne : (k : Int) + 1 ≠ -(k : Int) - 1 := by omega
      have HNE2 := hide hne
      clear hne e1
      cases hlk : loopK code k
      · have HN : Hid (zs = loopsL code (k + 1)) := hide (by rw [loopsL_no hlk]; exact hzs.out)
        have HK : Hid (nextC code ((k : Int) + 1) (-(k : Int) - 1) = false) := hide hlk
        clear hlk
        go_wp2_with fail
        refine (followV_any _ _ T mb l code _ _ _ hcr hmp HL.out hv hat.1 hat.2 HNE2.out).mono ?_
        rw [HK.out]
        rintro e w2 ⟨rfl, hb2⟩
        have own2 := own.below hb2
        have hmp2 := hmp.below hb2
        have hB2 := hB.trans (hb2.mono hz)
        go_wp2_with fail
        go_roundw
        case rel => exact ⟨k + 1, A1, c1, zs, by omega, by go_num, rfl, HN, own2, hmp2, hB2⟩
        case measure => simp [intOf]; omega
      · have HN : Hid (zs ++ [(k : Int)] = loopsL code (k + 1)) := hide (by rw [loopsL_yes hlk, hzs.out])
        have HK : Hid (nextC code ((k : Int) + 1) (-(k : Int) - 1) = true) := hide hlk
        clear hlk
        go_wp2_with fail
        refine (followV_any _ _ T mb l code _ _ _ hcr hmp HL.out hv hat.1 hat.2 HNE2.out).mono ?_
        rw [HK.out]
        rintro e w2 ⟨rfl, hb2⟩
        have own2 := own.below hb2
        have hmp2 := hmp.below hb2
        have hB2 := hB.trans (hb2.mono hz)
        have hz2 := hB2.size
        go_wp2_with (at_builtin; refine wpList_append_ints rfl (.tmp 22) (.tmp 24) rfl w.heap.size A1 c1 zs rfl (own2.alloc _) (some ⟨w2.heap.size, 0, none⟩) 1 [(k : Int)] rfl (OwnI.new (base := 0) w2 [(k : Int)] #[.int .i64 (k : Int)] rfl (Nat.zero_le _) (by simp [maxLen])).rd (by simp; omega) (by simp; omega) (zs ++ [(k : Int)]) rfl ?_; intro A3 c3 w3 own3 hg3 hb3)
        go_roundw
        case rel => exact ⟨k + 1, A3, c3, zs ++ [(k : Int)], by omega, by go_num, by simp, HN, own3, (hmp2.alloc _).grown hg3 (own2.mp_ne hmp2), (hB2.alloc hz2 _).grown hg3 (by simp; omega) (fun q hq => (own2.ge hq).1)⟩
        case measure => simp [intOf]; omega
    · have hzs' := hzs.out
      rw [show k = N by omega, HNE.out] at hzs'
      have HZ := hide hzs'
      clear hzs hzs'
      go_wp2_with fail
      go_ret
      rw [← HZ.out]
      exact ⟨A1, c1, rfl, own, hB⟩
set_option maxRecDepth 100000 in
set_option maxHeartbeats 4000000 in
theorem specLoopMoves_any (A : Option Addr) (c T : Nat) (code : List (List Int)) (w : World) (hc : RC w T A code) (hn : code.length + sumLen code ≤ 1048576) :
    Calls Tryz.prog 60 #[.slice A code.length c] w (RetIC w (loopsR code).1 (loopsR code).2) := by
  cases hv : validC code
  · have HV : Hid (loopsR code = ([], 1)) := hide (by unfold loopsR; rw [if_neg (by rw [hv]; simp)])
    go_enter Tryz.func60, Tryz.ntmps60
    go_wp2_with fail
    refine (l14Ok_any _ _ T code _ hc hn).mono ?_
    rw [hv]
    rintro e w1 ⟨rfl, hb1⟩
    go_wp2_with fail
    refine bodyPost_ret (v := .tuple #[.slice none 0 0, .int .i64 1]) (by simp [results, Tryz.results60, go_sem]) rfl ?_
    rw [HV.out]
    exact ⟨none, 0, rfl, OwnI.nil _ _, hb1⟩
  · have HV : Hid (loopsR code = (loopsL code (sumLen code / 2), 0)) := hide (by unfold loopsR; rw [if_pos hv])
    obtain ⟨hs1, hs2, hs3⟩ := valid_sum hv
    obtain ⟨N, hNe⟩ : ∃ N, N = sumLen code / 2 := ⟨_, rfl⟩
    have hNl : N ≤ 120 := by omega
    have HNE := hide hNe
    have e1 : (sumLen code : Int) / 2 = (N : Int) := by omega
    clear hNe hs3
    go_enter Tryz.func60, Tryz.ntmps60
    go_wp2_with fail
    refine (l14Ok_any _ _ T code _ hc hn).mono ?_
    rw [hv]
    rintro e w1 ⟨rfl, hb1⟩
    have he : OwnI (w1.alloc (.cells #[] 2)) w.heap.size (some ⟨w1.heap.size, 0, none⟩) 0 [] := OwnI.empty w1 hb1.size
    clear hv
    go_wp2_with fail
    go_loopw [4, 5] (fun o i wr => ∃ (k : Nat) (A1 : Option Addr) (c1 : Nat) (zs : List Int), k ≤ N ∧ i = .int .i64 (k : Int) ∧ o = .slice A1 zs.length c1 ∧ Hid (zs = loopsL code k) ∧ OwnI wr w.heap.size A1 c1 zs ∧ Below w.heap.size w wr) (fun _ i _ => N - (intOf i).toNat)
    case atStart => exact ⟨0, _, 0, [], Nat.zero_le _, rfl, rfl, hide rfl, he, hb1.alloc hb1.size _⟩
    case round =>
      clear he
      obtain ⟨k, A1, c1, zs, hk, rfl, rfl, hzs, own, hB⟩ := hrel
      have hz := hB.size
      have hcr := hc.below hB
      have hzl : zs.length ≤ k := by rw [hzs.out]; exact loopsL_len _ _
      by_cases hlt : k < N
      · have hkN : (k : Int) < (N : Int) := by omega
        cases hlk : loopK code k
        · have HN : Hid (zs = loopsL code (k + 1)) := hide (by rw [loopsL_no hlk]; exact hzs.out)
          go_wp2_with (go_at_call 51; refine (l15Many_any _ _ T code _ hcr hn).mono ?_; rintro e w' ⟨rfl, rfl⟩)
          refine (l16Loop_any _ _ T k code _ hcr hn (by omega)).mono ?_
          rw [hlk]
          rintro e w2 ⟨rfl, hb2⟩
          have own2 := own.below hb2
          have hB2 := hB.trans (hb2.mono hz)
          clear hlk
          go_wp2_with fail
          go_roundw
          case rel => exact ⟨k + 1, A1, c1, zs, by omega, by go_num, rfl, HN, own2, hB2⟩
          case measure => simp [intOf]; omega
        · have HN : Hid (zs ++ [(k : Int)] = loopsL code (k + 1)) := hide (by rw [loopsL_yes hlk, hzs.out])
          go_wp2_with (go_at_call 51; refine (l15Many_any _ _ T code _ hcr hn).mono ?_; rintro e w' ⟨rfl, rfl⟩)
          refine (l16Loop_any _ _ T k code _ hcr hn (by omega)).mono ?_
          rw [hlk]
          rintro e w2 ⟨rfl, hb2⟩
          have own2 := own.below hb2
          have hB2 := hB.trans (hb2.mono hz)
          have hz2 := hB2.size
          clear hlk
          go_wp2_with (at_builtin; refine wpList_append_ints rfl (.tmp 19) (.tmp 21) rfl w.heap.size A1 c1 zs rfl (own2.alloc _) (some ⟨w2.heap.size, 0, none⟩) 1 [(k : Int)] rfl (OwnI.new (base := 0) w2 [(k : Int)] #[.int .i64 (k : Int)] rfl (Nat.zero_le _) (by simp [maxLen])).rd (by simp; omega) (by simp; omega) (zs ++ [(k : Int)]) rfl ?_; intro A3 c3 w3 own3 hg3 hb3)
          go_roundw
          case rel => exact ⟨k + 1, A3, c3, zs ++ [(k : Int)], by omega, by go_num, by simp, HN, own3, (hB2.alloc hz2 _).grown hg3 (by simp; omega) (fun q hq => (own2.ge hq).1)⟩
          case measure => simp [intOf]; omega
      · have hkN : ¬ (k : Int) < (N : Int) := by omega
        have hzs' := hzs.out
        rw [show k = N by omega, HNE.out] at hzs'
        have HZ := hide hzs'
        clear hzs hzs'
        go_wp2_with (go_at_call 51; refine (l15Many_any _ _ T code _ hcr hn).mono ?_; rintro e w' ⟨rfl, rfl⟩)
        refine bodyPost_ret (v := .tuple #[.slice A1 zs.length c1, .int .i64 0]) (by simp [results, Tryz.results60, go_sem]) rfl ?_
        rw [HV.out, ← HZ.out]
        exact ⟨A1, c1, rfl, own, hB⟩
end Go.Proofs.YtocellbhpjiioaaGreat
