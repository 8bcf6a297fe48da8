/-
  Contracts: PairMoves, of the reference and of the program. Conditions: none beyond the lengths.
-/
import Derived.Test.YtocellbhpjiioaaGreatLoops
import Derived.Test.YtocellbhpjiioaaGreatCopyM
namespace Go.Proofs.YtocellbhpjiioaaGreat
open Go.RowKit
set_option linter.unusedVariables false

theorem OwnC.mp_ne {α : Type} {E : Me α} {w : World} {base top b : Nat} {l : List (Int × α)} {A : Option Addr} {c : Nat} {code : List (List Int)} (h : OwnC w base top A c code) (hm : Mp E w b l) : some b ≠ blk A := by
  obtain ⟨hs, h1, _⟩ := h
  exact hm.own_ne h1
theorem l16Pair_any (A : Option Addr) (c T a b : Nat) (code : List (List Int)) (w : World) (hc : RC w T A code) (hn : code.length + sumLen code ≤ 1048576) (ha : a ≤ 1048576) (hb : b ≤ 1048576) :
    Calls Tryz.prog 67 #[.slice A code.length c, .int .i64 (a : Int), .int .i64 (b : Int)] w (RetV w (.bool (pairK code a b))) := by
  have v1 : IntKind.i64.wrap ((a : Int) + 1) = (a : Int) + 1 := by rw [IntKind.wrap_i64]; omega
  have v2 : IntKind.i64.wrap (-(a : Int)) = -(a : Int) := by rw [IntKind.wrap_i64]; omega
  have v3 : IntKind.i64.wrap (-(a : Int) - 1) = -(a : Int) - 1 := by rw [IntKind.wrap_i64]; omega
  have v4 : IntKind.i64.wrap ((b : Int) + 1) = (b : Int) + 1 := by rw [IntKind.wrap_i64]; omega
  have v5 : IntKind.i64.wrap (-(b : Int)) = -(b : Int) := by rw [IntKind.wrap_i64]; omega
  have v6 : IntKind.i64.wrap (-(b : Int) - 1) = -(b : Int) - 1 := by rw [IntKind.wrap_i64]; omega
  have HV : Hid (pairK code a b = (nextC code ((a : Int) + 1) ((b : Int) + 1) && nextC code (-(a : Int) - 1) (-(b : Int) - 1))) := hide rfl
  cases h1 : nextC code ((a : Int) + 1) ((b : Int) + 1)
  · go_enter Tryz.func67, Tryz.ntmps67
    go_wp2_with fail
    refine (l16Next_any _ _ T code _ _ _ hc hn).mono ?_
    rw [h1]
    rintro e w1 ⟨rfl, hb1⟩
    go_wp2_with fail
    go_ret
    rw [HV.out, h1]
    exact ⟨rfl, hb1⟩
  · go_enter Tryz.func67, Tryz.ntmps67
    go_wp2_with fail
    refine (l16Next_any _ _ T code _ _ _ hc hn).mono ?_
    rw [h1]
    rintro e w1 ⟨rfl, hb1⟩
    have H1 := hide h1
    clear h1
    obtain ⟨q, hq⟩ : ∃ q, q = nextC code (-(a : Int) - 1) (-(b : Int) - 1) := ⟨_, rfl⟩
    have HQ := hide hq
    go_wp2_with fail
    refine (l16Next_any _ _ T code _ _ _ (hc.below hb1) hn).mono ?_
    rw [← hq]
    rintro e w2 ⟨rfl, hb2⟩
    have hB := hb1.trans (hb2.mono hb1.size)
    clear hq
    go_wp2_with fail
    go_ret
    rw [HV.out, H1.out, ← HQ.out]
    exact ⟨rfl, hB⟩
theorem sideBySide_any (A : Option Addr) (c T mb a b : Nat) (l : List (Int × Int × Int)) (code : List (List Int)) (w : World) (hc : RC w T A code) (hmp : Mp plE w mb l) (hl : Hid (∀ x, l.lookup x = placeOf code x))
    (hv : validC code = true) (hab : a < b) (hb : b < sumLen code / 2) :
    Calls Tryz.prog 71 #[.slice A code.length c, .map (some mb), .int .i64 (a : Int), .int .i64 (b : Int)] w (RetV w (.bool (pairK code a b))) := by
  obtain ⟨hs1, hs2, hs3⟩ := valid_sum hv
  have hat := hide (valid_at hv (k := a) (by omega))
  have hbt := hide (valid_at hv (k := b) hb)
  have v1 : IntKind.i64.wrap ((a : Int) + 1) = (a : Int) + 1 := by rw [IntKind.wrap_i64]; omega
  have v2 : IntKind.i64.wrap (-(a : Int)) = -(a : Int) := by rw [IntKind.wrap_i64]; omega
  have v3 : IntKind.i64.wrap (-(a : Int) - 1) = -(a : Int) - 1 := by rw [IntKind.wrap_i64]; omega
  have v4 : IntKind.i64.wrap ((b : Int) + 1) = (b : Int) + 1 := by rw [IntKind.wrap_i64]; omega
  have v5 : IntKind.i64.wrap (-(b : Int)) = -(b : Int) := by rw [IntKind.wrap_i64]; omega
  have v6 : IntKind.i64.wrap (-(b : Int) - 1) = -(b : Int) - 1 := by rw [IntKind.wrap_i64]; omega
  have HNE : Hid ((a : Int) + 1 ≠ (b : Int) + 1 ∧ -(a : Int) - 1 ≠ -(b : Int) - 1) := hide (by omega)
  have HV : Hid (pairK code a b = (nextC code ((a : Int) + 1) ((b : Int) + 1) && nextC code (-(a : Int) - 1) (-(b : Int) - 1))) := hide rfl
  have hv2 := hide hv
  clear hv
  cases h1 : nextC code ((a : Int) + 1) ((b : Int) + 1)
  · go_enter Tryz.func71, Tryz.ntmps71
    go_wp2_with fail
    refine (followV_any _ _ T mb l code _ _ _ hc hmp hl.out hv2.out hat.out.1 hbt.out.1 HNE.out.1).mono ?_
    rw [h1]
    rintro e w1 ⟨rfl, hb1⟩
    go_wp2_with fail
    go_ret
    rw [HV.out, h1]
    exact ⟨rfl, hb1⟩
  · go_enter Tryz.func71, Tryz.ntmps71
    go_wp2_with fail
    refine (followV_any _ _ T mb l code _ _ _ hc hmp hl.out hv2.out hat.out.1 hbt.out.1 HNE.out.1).mono ?_
    rw [h1]
    rintro e w1 ⟨rfl, hb1⟩
    have H1 := hide h1
    clear h1
    obtain ⟨q, hq⟩ : ∃ q, q = nextC code (-(a : Int) - 1) (-(b : Int) - 1) := ⟨_, rfl⟩
    have HQ := hide hq
    go_wp2_with fail
    refine (followV_any _ _ T mb l code _ _ _ (hc.below hb1) (hmp.below hb1) hl.out hv2.out hat.out.2 hbt.out.2 HNE.out.2).mono ?_
    rw [← hq]
    rintro e w2 ⟨rfl, hb2⟩
    have hB := hb1.trans (hb2.mono hb1.size)
    clear hq
    go_wp2_with fail
    go_ret
    rw [HV.out, H1.out, ← HQ.out]
    exact ⟨rfl, hB⟩

def pairsR (code : List (List Int)) : List (List Int) × Int := if validC code = true then (pairsL code (sumLen code / 2) (sumLen code / 2), 0) else ([], 1)
theorem mulself_le {n : Nat} (h : n ≤ 120) : n * n ≤ 14400 := Nat.le_trans (Nat.mul_le_mul h h) (by decide)
theorem mul_le_120 {m n : Nat} (h : m ≤ 120) (h2 : n ≤ 120) : m * n ≤ 14400 := Nat.le_trans (Nat.mul_le_mul h h2) (by decide)
theorem pairsR_len (code : List (List Int)) : (pairsR code).1.length + sumLen (pairsR code).1 ≤ 1048576 := by
  unfold pairsR
  split
  · rename_i hv
    obtain ⟨hs1, hs2, hs3⟩ := valid_sum hv
    have h1 := pairsL_len code (sumLen code / 2) (sumLen code / 2)
    have h2 := mulself_le hs3
    dsimp only
    omega
  · simp [sumLen]
def pairsZ (code : List (List Int)) (N a b : Nat) : List (List Int) := pairsL code N a ++ pairsA code a b
theorem pairsZ_len (code : List (List Int)) {N a b : Nat} (hN : N ≤ 120) (ha : a ≤ N) (hb : b ≤ N + 1) : (pairsZ code N a b).length ≤ 20000 := by
  have h1 := pairsL_len code N a
  have h2 := pairsA_len code a b
  have h3 := mul_le_120 (m := a) (n := N) (by omega) hN
  unfold pairsZ
  rw [List.length_append]
  omega

set_option maxRecDepth 100000 in
set_option maxHeartbeats 4000000 in
theorem implPairs_any (A : Option Addr) (c T : Nat) (code : List (List Int)) (w : World) (hc : RC w T A code) (hv : validC code = true) :
    Calls Tryz.prog 56 #[.slice A code.length c] w (RetC w (pairsL code (sumLen code / 2) (sumLen code / 2))) := by
  obtain ⟨hs1, hs2, hs3⟩ := valid_sum hv
  obtain ⟨N, hNe⟩ : ∃ N, N = sumLen code / 2 := ⟨_, rfl⟩
  have hNl : N ≤ 120 := by omega
  have HNE := hide hNe
  have e1 : (sumLen code : Int) / 2 = (N : Int) := by omega
  have hn : code.length + sumLen code ≤ 1048576 := by omega
  rw [← hNe]
  have he : OwnC (w.alloc (.cells #[] 65)) w.heap.size (w.alloc (.cells #[] 65)).heap.size (some ⟨w.heap.size, 0, none⟩) 0 [] := (OwnC.empty_ w _ rfl (Nat.le_refl _)).mono (Nat.le_refl _) (by simp)
  have hc0 := hc.alloc (.cells #[] 65)
  have hb0 : Below w.heap.size w (w.alloc (.cells #[] 65)) := (Below.refl _ _).alloc (Nat.le_refl _) _
  clear hNe hs3
  go_enter Tryz.func56, Tryz.ntmps56
  go_wp2_with fail
  refine (places_any _ _ T code _ hc0 hn).mono ?_
  rintro e w1 ⟨mb, l, rfl, hmb, hmp, hl, hb1⟩
  have he1 := (he.below hb1).mono (Nat.le_refl _) hb1.size
  have hB1 := hb0.trans (hb1.mono hb0.size)
  have hc1 := hc.below hB1
  have HL := hl
  clear he hc0 hb0
  go_wp2_with (go_at_call 68; refine (countCoded_any _ _ T code _ hc1 hn).mono ?_; rintro e w' ⟨rfl, rfl⟩)
  go_loopw [3, 14] (fun o i wr => ∃ (a : Nat) (A1 : Option Addr) (c1 : Nat) (zs : List (List Int)), a ≤ N ∧ i = .int .i64 (a : Int) ∧ o = .slice A1 zs.length c1 ∧ Hid (zs = pairsL code N a) ∧ OwnC wr w.heap.size wr.heap.size A1 c1 zs ∧ Mp plE wr mb l ∧ Below w.heap.size w wr) (fun _ i _ => N - (intOf i).toNat)
  case atStart => exact ⟨0, _, 0, [], Nat.zero_le _, rfl, rfl, hide rfl, he1, hmp, hB1⟩
  case round =>
    clear hmp he1 hb1 hB1 hc1
    obtain ⟨a, A1, c1, zs, ha, rfl, rfl, hzs, own, hmp, hB⟩ := hrel
    by_cases hlt : a < N
    · have va : IntKind.i64.wrap ((a : Int) + 1) = (a : Int) + 1 := by rw [IntKind.wrap_i64]; omega
      have hcr0 := hc.below hB
      go_wp2_with fail
      go_loopw [3, 7] (fun o i wr => ∃ (b : Nat) (A1 : Option Addr) (c1 : Nat) (zs : List (List Int)), a + 1 ≤ b ∧ b ≤ N ∧ i = .int .i64 (b : Int) ∧ o = .slice A1 zs.length c1 ∧ Hid (zs = pairsZ code N a b) ∧ OwnC wr w.heap.size wr.heap.size A1 c1 zs ∧ Mp plE wr mb l ∧ Below w.heap.size w wr) (fun _ i _ => N + 1 - (intOf i).toNat)
      case atStart => exact ⟨a + 1, A1, c1, zs, Nat.le_refl _, by omega, by go_num, rfl, hide (by unfold pairsZ; rw [pairsA_first, List.append_nil]; exact hzs.out), own, hmp, hB⟩
      case round =>
        clear own hB hzs hcr0 hmp
        obtain ⟨b, A1, c1, zs, hab, hb, rfl, rfl, hzs, own, hmp, hB⟩ := hrel
        have hz := hB.size
        have hcr := hc.below hB
        have hzl : zs.length ≤ 20000 := by rw [hzs.out]; exact pairsZ_len code hNl ha (by omega)
        by_cases hltb : b < N
        · have vb : IntKind.i64.wrap ((b : Int) + 1) = (b : Int) + 1 := by rw [IntKind.wrap_i64]; omega
          have hbI : (b : Int) < (N : Int) := by omega
          have hbS : b < sumLen code / 2 := by rw [← HNE.out]; exact hltb
          cases hpk : pairK code a b
          · have HN : Hid (zs = pairsZ code N a (b + 1)) := hide (by unfold pairsZ; rw [pairsA_no hpk]; exact hzs.out)
            go_wp2_with fail
            refine (sideBySide_any _ _ T mb a b l code _ hcr hmp HL hv (by omega) hbS).mono ?_
            rw [hpk]
            rintro e w2 ⟨rfl, hb2⟩
            have own2 := (own.below hb2).mono (Nat.le_refl _) hb2.size
            have hB2 := hB.trans (hb2.mono hz)
            have hz2 := hB2.size
            have hmp2 := hmp.below hb2
            clear hpk
            go_wp2_with fail
            go_roundw
            case rel => exact ⟨b + 1, A1, c1, zs, by omega, by omega, by go_num, rfl, HN, own2, hmp2, hB2⟩
            case measure => simp [intOf]; omega
          · have HN : Hid (zs ++ [[(a : Int), (b : Int)]] = pairsZ code N a (b + 1)) := hide (by unfold pairsZ; rw [pairsA_yes (by omega) hpk, hzs.out]; unfold pairsZ; rw [List.append_assoc])
            go_wp2_with fail
            refine (sideBySide_any _ _ T mb a b l code _ hcr hmp HL hv (by omega) hbS).mono ?_
            rw [hpk]
            rintro e w2 ⟨rfl, hb2⟩
            have own2 := (own.below hb2).mono (Nat.le_refl _) hb2.size
            have hB2 := hB.trans (hb2.mono hz)
            have hz2 := hB2.size
            have hmp2 := hmp.below hb2
            clear hpk
            have hrow : OwnI (w2.alloc (.cells #[.int .i64 (a : Int), .int .i64 (b : Int)] 2)) w2.heap.size (some ⟨w2.heap.size, 0, none⟩) 2 [(a : Int), (b : Int)] := OwnI.new w2 [(a : Int), (b : Int)] #[.int .i64 (a : Int), .int .i64 (b : Int)] rfl (Nat.le_refl _) (by simp [maxLen])
            go_wp2_with (at_builtin; refine wpList_append_code rfl (.tmp 29) (.tmp 33) rfl w.heap.size w2.heap.size A1 c1 zs rfl ((own2.alloc _).alloc _) (some ⟨w2.heap.size + 1, 0, none⟩) 1 rfl (some ⟨w2.heap.size, 0, none⟩) 2 [(a : Int), (b : Int)] (RG.fresh (E := hdE) (w2.alloc _) (w2.heap.size + 1) (by simp) ⟨some ⟨w2.heap.size, 0, none⟩, 2, 2⟩ #[.slice (some ⟨w2.heap.size, 0, none⟩) 2 2] rfl _) (hrow.alloc _) hz2 (by simp; omega) (by omega) (zs ++ [[(a : Int), (b : Int)]]) rfl ?_; intro A3 c3 w3 own3 hg3 hb3)
            go_roundw
            case rel => exact ⟨b + 1, A3, c3, zs ++ [[(a : Int), (b : Int)]], by omega, by omega, by go_num, by simp, HN, own3, ((hmp2.alloc _).alloc _).grown hg3 (own2.mp_ne hmp2), (((hB2.alloc hz2 _).alloc (by simp; omega) _)).grown hg3 (by simp; omega) (fun q hq => (own2.ge_ hq).1)⟩
            case measure => simp [intOf]; omega
        · have HN : Hid (zs = pairsL code N (a + 1)) := hide (by
            rw [pairsL_next, hzs.out]
            unfold pairsZ
            rw [show b = N by omega])
          clear hzs
          go_wp2_with fail
          go_roundw
          case rel => exact ⟨a + 1, A1, c1, zs, by omega, by go_num, rfl, HN, own, hmp, hB⟩
          case measure => simp [intOf]; omega
    · have hzs' := hzs.out
      rw [show a = N by omega] at hzs'
      have HZ := hide hzs'
      clear hzs hzs'
      go_wp2_with fail
      go_ret
      rw [← HZ.out]
      exact ⟨A1, c1, rfl, own, hB⟩

set_option maxRecDepth 100000 in
set_option maxHeartbeats 4000000 in
theorem specPairs_any (A : Option Addr) (c T : Nat) (code : List (List Int)) (w : World) (hc : RC w T A code) (hv : validC code = true) :
    Calls Tryz.prog 61 #[.slice A code.length c] w (RetCC w (pairsL code (sumLen code / 2) (sumLen code / 2)) 0) := by
  obtain ⟨hs1, hs2, hs3⟩ := valid_sum hv
  obtain ⟨N, hNe⟩ : ∃ N, N = sumLen code / 2 := ⟨_, rfl⟩
  have hNl : N ≤ 120 := by omega
  have HNE := hide hNe
  have e1 : (sumLen code : Int) / 2 = (N : Int) := by omega
  have hn : code.length + sumLen code ≤ 1048576 := by omega
  rw [← hNe]
  have hvv := hv
  clear hNe hs3
  go_enter Tryz.func61, Tryz.ntmps61
  go_wp2_with fail
  refine (l14Ok_any _ _ T code _ hc hn).mono ?_
  rw [hvv]
  rintro e w1 ⟨rfl, hb1⟩
  have he1 : OwnC (w1.alloc (.cells #[] 65)) w.heap.size (w1.alloc (.cells #[] 65)).heap.size (some ⟨w1.heap.size, 0, none⟩) 0 [] := (OwnC.empty_ w1 _ rfl hb1.size).mono (Nat.le_refl _) (by simp)
  have hB1 := hb1.alloc hb1.size (.cells #[] 65)
  clear hvv
  go_wp2_with fail
  go_loopw [4, 5] (fun o i wr => ∃ (a : Nat) (A1 : Option Addr) (c1 : Nat) (zs : List (List Int)), a ≤ N ∧ i = .int .i64 (a : Int) ∧ o = .slice A1 zs.length c1 ∧ Hid (zs = pairsL code N a) ∧ OwnC wr w.heap.size wr.heap.size A1 c1 zs ∧ Below w.heap.size w wr) (fun _ i _ => N - (intOf i).toNat)
  case atStart => exact ⟨0, _, 0, [], Nat.zero_le _, rfl, rfl, hide rfl, he1, hB1⟩
  case round =>
    clear he1 hB1
    obtain ⟨a, A1, c1, zs, ha, rfl, rfl, hzs, own, hB⟩ := hrel
    by_cases hlt : a < N
    · have va : IntKind.i64.wrap ((a : Int) + 1) = (a : Int) + 1 := by rw [IntKind.wrap_i64]; omega
      have hcr0 := hc.below hB
      have haN : (a : Int) < (N : Int) := by omega
      go_wp2_with (go_at_call 51; refine (l15Many_any _ _ T code _ hcr0 hn).mono ?_; rintro e w' ⟨rfl, rfl⟩)
      go_loopw [4, 6] (fun o i wr => ∃ (b : Nat) (A1 : Option Addr) (c1 : Nat) (zs : List (List Int)), a + 1 ≤ b ∧ b ≤ N ∧ i = .int .i64 (b : Int) ∧ o = .slice A1 zs.length c1 ∧ Hid (zs = pairsZ code N a b) ∧ OwnC wr w.heap.size wr.heap.size A1 c1 zs ∧ Below w.heap.size w wr) (fun _ i _ => N + 1 - (intOf i).toNat)
      case atStart => exact ⟨a + 1, A1, c1, zs, Nat.le_refl _, by omega, by go_num, rfl, hide (by unfold pairsZ; rw [pairsA_first, List.append_nil]; exact hzs.out), own, hB⟩
      case round =>
        clear own hB hzs hcr0
        obtain ⟨b, A1, c1, zs, hab, hb, rfl, rfl, hzs, own, hB⟩ := hrel
        have hz := hB.size
        have hcr := hc.below hB
        have hzl : zs.length ≤ 20000 := by rw [hzs.out]; exact pairsZ_len code hNl ha (by omega)
        by_cases hltb : b < N
        · have vb : IntKind.i64.wrap ((b : Int) + 1) = (b : Int) + 1 := by rw [IntKind.wrap_i64]; omega
          have hbI : (b : Int) < (N : Int) := by omega
          have hbS : b < sumLen code / 2 := by rw [← HNE.out]; exact hltb
          cases hpk : pairK code a b
          · have HN : Hid (zs = pairsZ code N a (b + 1)) := hide (by unfold pairsZ; rw [pairsA_no hpk]; exact hzs.out)
            go_wp2_with (go_at_call 51; refine (l15Many_any _ _ T code _ hcr hn).mono ?_; rintro e w' ⟨rfl, rfl⟩)
            refine (l16Pair_any _ _ T a b code _ hcr hn (by omega) (by omega)).mono ?_
            rw [hpk]
            rintro e w2 ⟨rfl, hb2⟩
            have own2 := (own.below hb2).mono (Nat.le_refl _) hb2.size
            have hB2 := hB.trans (hb2.mono hz)
            have hz2 := hB2.size
            clear hpk
            go_wp2_with fail
            go_roundw
            case rel => exact ⟨b + 1, A1, c1, zs, by omega, by omega, by go_num, rfl, HN, own2, hB2⟩
            case measure => simp [intOf]; omega
          · have HN : Hid (zs ++ [[(a : Int), (b : Int)]] = pairsZ code N a (b + 1)) := hide (by unfold pairsZ; rw [pairsA_yes (by omega) hpk, hzs.out]; unfold pairsZ; rw [List.append_assoc])
            go_wp2_with (go_at_call 51; refine (l15Many_any _ _ T code _ hcr hn).mono ?_; rintro e w' ⟨rfl, rfl⟩)
            refine (l16Pair_any _ _ T a b code _ hcr hn (by omega) (by omega)).mono ?_
            rw [hpk]
            rintro e w2 ⟨rfl, hb2⟩
            have own2 := (own.below hb2).mono (Nat.le_refl _) hb2.size
            have hB2 := hB.trans (hb2.mono hz)
            have hz2 := hB2.size
            clear hpk
            have hrow : OwnI (w2.alloc (.cells #[.int .i64 (a : Int), .int .i64 (b : Int)] 2)) w2.heap.size (some ⟨w2.heap.size, 0, none⟩) 2 [(a : Int), (b : Int)] := OwnI.new w2 [(a : Int), (b : Int)] #[.int .i64 (a : Int), .int .i64 (b : Int)] rfl (Nat.le_refl _) (by simp [maxLen])
            go_wp2_with (at_builtin; refine wpList_append_code rfl (.tmp 29) (.tmp 33) rfl w.heap.size w2.heap.size A1 c1 zs rfl ((own2.alloc _).alloc _) (some ⟨w2.heap.size + 1, 0, none⟩) 1 rfl (some ⟨w2.heap.size, 0, none⟩) 2 [(a : Int), (b : Int)] (RG.fresh (E := hdE) (w2.alloc _) (w2.heap.size + 1) (by simp) ⟨some ⟨w2.heap.size, 0, none⟩, 2, 2⟩ #[.slice (some ⟨w2.heap.size, 0, none⟩) 2 2] rfl _) (hrow.alloc _) hz2 (by simp; omega) (by omega) (zs ++ [[(a : Int), (b : Int)]]) rfl ?_; intro A3 c3 w3 own3 hg3 hb3)
            go_roundw
            case rel => exact ⟨b + 1, A3, c3, zs ++ [[(a : Int), (b : Int)]], by omega, by omega, by go_num, by simp, HN, own3, (((hB2.alloc hz2 _).alloc (by simp; omega) _)).grown hg3 (by simp; omega) (fun q hq => (own2.ge_ hq).1)⟩
            case measure => simp [intOf]; omega
        · have HN : Hid (zs = pairsL code N (a + 1)) := hide (by
            rw [pairsL_next, hzs.out]
            unfold pairsZ
            rw [show b = N by omega])
          clear hzs
          have hbI : ¬ (b : Int) < (N : Int) := by omega
          go_wp2_with (go_at_call 51; refine (l15Many_any _ _ T code _ hcr hn).mono ?_; rintro e w' ⟨rfl, rfl⟩)
          go_roundw
          case rel => exact ⟨a + 1, A1, c1, zs, by omega, by go_num, rfl, HN, own, hB⟩
          case measure => simp [intOf]; omega
    · have hzs' := hzs.out
      rw [show a = N by omega] at hzs'
      have HZ := hide hzs'
      clear hzs hzs'
      have hcr0 := hc.below hB
      have haN : ¬ (a : Int) < (N : Int) := by omega
      go_wp2_with (go_at_call 51; refine (l15Many_any _ _ T code _ hcr0 hn).mono ?_; rintro e w' ⟨rfl, rfl⟩)
      refine bodyPost_ret (v := .tuple #[.slice A1 zs.length c1, .int .i64 0]) (by simp [results, Tryz.results61, go_sem]) rfl ?_
      rw [← HZ.out]
      exact ⟨A1, c1, rfl, own, hB⟩
theorem specPairMoves_any (A : Option Addr) (c T : Nat) (code : List (List Int)) (w : World) (hc : RC w T A code) (hn : code.length + sumLen code ≤ 1048576) :
    Calls Tryz.prog 61 #[.slice A code.length c] w (RetCC w (pairsR code).1 (pairsR code).2) := by
  cases hv : validC code
  · have HV : Hid (pairsR code = ([], 1)) := hide (by unfold pairsR; rw [if_neg (by rw [hv]; simp)])
    go_enter Tryz.func61, Tryz.ntmps61
    go_wp2_with fail
    refine (l14Ok_any _ _ T code _ hc hn).mono ?_
    rw [hv]
    rintro e w1 ⟨rfl, hb1⟩
    go_wp2_with fail
    refine bodyPost_ret (v := .tuple #[.slice none 0 0, .int .i64 1]) (by simp [results, Tryz.results61, go_sem]) rfl ?_
    rw [HV.out]
    exact ⟨none, 0, rfl, OwnC.nil _ _ _, hb1⟩
  · have HV : pairsR code = (pairsL code (sumLen code / 2) (sumLen code / 2), 0) := by unfold pairsR; rw [if_pos hv]
    rw [HV]
    exact specPairs_any A c T code w hc hv
end Go.Proofs.YtocellbhpjiioaaGreat
