/-
  Contracts: what is drawn for the law of own crossings. Conditions: arguments of at most 4096 bytes.
  Contracts of the laws' helpers over polynomials, and of the two tests for equality. Conditions: the lengths are far below the machine's.
  Contracts of the laws' small helpers: long arguments, equal lists; codes that are the same, and how many crossings. Conditions: none beyond the lengths.
  Plain lemmas: the table of common crossings. Conditions: none; nothing of the program is named here.
  Plain lemmas: a valid code without some crossings is valid. Conditions: none; nothing of the program is named here.
  Contract: slices.Delete of one row of a code of the call's own. Conditions: none beyond the lengths.
  Contracts: slices.Index and slices.Contains at []int64. Conditions: none beyond the lengths.
  Contracts: a code without some crossings, of the program and of the reference. Conditions: none beyond the lengths.
  Contracts: hasIndex; the program's codedCode with one index. Conditions: none beyond the lengths.
  Contract: DropCurve, of the program. Conditions: none beyond the lengths.
-/
import Derived.Test.YtnjojnnapdhijaaBentA
import Derived.Test.YtnjojnnapdhijaaBentCM
import Derived.Test.YtnjojnnapdhijaaRenS
import Derived.Test.YtnjojnnapdhijaaPolyOk
import Derived.Test.YtnjojnnapdhijaaCodeIn
import Derived.Test.YtnjojnnapdhijaaMoveMath
import Derived.Test.YtnjojnnapdhijaaRen
import Derived.Test.YtnjojnnapdhijaaHas
import Derived.Test.YtnjojnnapdhijaaRenI
import Derived.Shelf.SlicesE.Delete
import Derived.Ground.SlgnProg
import Derived.Shelf.SlGeneric
import Derived.Sort.OwnSortedInts
namespace Go.Proofs.Ytnjojnnapdhijaa
open Go.RowKit
set_option linter.unusedVariables false

def RetAt (w : World) (b : Nat) (A : Option Addr) (c : Nat) (xs : List Int) (K : Nat) (e : Ending) (w' : World) : Prop :=
  ∃ (code : List (List Int)) (B : Option Addr) (d : Nat) (k : Int), e = .returned (.tuple #[.slice B code.length d, .int .i64 k]) ∧ CodeB 64 300 code ∧ Dr w' w.heap.size B d code ∧ Sr w' b A c xs K ∧ w.grownBy w' (some b)
def RetDA (w : World) (e : Ending) (w' : World) : Prop :=
  ∃ (code : List (List Int)) (B : Option Addr) (d : Nat) (k : Int), e = .returned (.tuple #[.slice B code.length d, .int .i64 k]) ∧ CodeB 64 300 code ∧ Dr w' w.heap.size B d code ∧ Below w.heap.size w w'
def RetDB (w : World) (e : Ending) (w' : World) : Prop :=
  ∃ (code : List (List Int)) (B : Option Addr) (d : Nat), e = .returned (.slice B code.length d) ∧ CodeB 64 300 code ∧ Dr w' w.heap.size B d code ∧ Below w.heap.size w w'
theorem CodeB.lenA {n m : Nat} {code : List (List Int)} (h : CodeB n m code) (hn : n ≤ 64) (hm : m ≤ 300) : code.length ≤ 64 ∧ code.length + sumLen code ≤ 1048576 := by
  have h1 := h.sum
  have h2 := h.1
  have h3 : code.length * m ≤ 64 * 300 := Nat.mul_le_mul (by omega) hm
  omega
set_option maxHeartbeats 4000000 in
theorem l14At_any (b : Nat) (A : Option Addr) (c : Nat) (xs : List Int) (K : Nat) (w : World) (h : Sr w b A c xs K) (hK : K ≤ 70000) (hx : ∀ x ∈ xs, 0 ≤ x ∧ x ≤ 255) (hn : xs.length ≤ 1048576) :
    Calls Try.prog 84 #[.pointer (some ⟨b, 0, none⟩)] w (RetAt w b A c xs (K + 460)) := by
  have hb0 := h.lt
  have H0 := hide h
  have HX := hide hx
  have HD := hide (l14Bent_any b A c xs K w h (by omega) hx hn)
  clear h hx
  go_enter Try.func84, Try.ntmps84
  go_wp2_with fail
  refine HD.out.mono ?_
  rintro e w1 ⟨code, B, d, rfl, hcb, hdr, s1, g1⟩
  have hz1 := g1.size
  have HCB := hide hcb
  have hcl := hcb.1
  obtain ⟨N, hN⟩ : ∃ N, N = code.length := ⟨_, rfl⟩
  have HN := hide hN
  rw [← hN] at hcl ⊢
  have HDR := hide hdr
  obtain ⟨M, hM⟩ : ∃ M : Int, max 1 (N : Int) = M := ⟨_, rfl⟩
  have hM1 : 0 < M ∧ M ≤ 64 := by omega
  have HMX := hide (l00Max_any 1 (N : Int) w1)
  rw [hM] at HMX
  clear hN hcb hdr HD hM
  go_wp2_with fail
  refine HMX.out.mono ?_
  rintro e w1' ⟨rfl, rfl⟩
  go_wp2_with fail
  refine (pickG_any b A c xs _ M w1 s1 (by omega) HX.out hn hM1.1 (by omega)).mono ?_
  rintro e w2 ⟨p, rfl, hp, s2, g2⟩
  have G2 := gr_trans g1 g2
  clear s1 g1 HMX
  go_wp2_with fail
  refine (one_any b A c xs _ 12 w2 s2 (by omega) HX.out hn (by omega) (by omega)).mono ?_
  rintro e w3 ⟨v, rfl, s3, g3⟩
  have G3 := gr_trans G2 g3
  have hz3 := g3.size
  rcases v with _ | _
  · have HF := hide (And.intro ((HDR.out.src g2 hb0).src g3 hb0) (And.intro s3 G3))
    clear s2 g2 G2 s3 g3 G3
    go_wp2_with fail
    go_ret2
    exact ⟨code, B, d, _, by rw [← HN.out]; rfl, HCB.out, HF.out.1, HF.out.2.1.more (by omega), HF.out.2.2⟩
  · have HS := hide (s3.alloc (.cells #[.int .i64 (-1), .int .i64 (N : Int)] 2))
    have HNEW := hide (OwnI.new (base := 0) w3 [-1, (N : Int)] #[.int .i64 (-1), .int .i64 (N : Int)] rfl (Nat.zero_le _) (by simp [maxLen])).rd
    have hl3 := s3.lt
    have HG := hide (And.intro g2 (And.intro g3 G3))
    clear s2 g2 G2 s3 g3 G3
    go_wp2_with fail
    refine (among_any b A c xs _ (some ⟨w3.heap.size, 0, none⟩) 2 [-1, (N : Int)] _ HS.out (by omega) HX.out hn HNEW.out (fun q hq => by simp [blk] at hq; omega) (by simp) (by simp)).mono ?_
    rintro e w4 ⟨x, rfl, hxm, s4, g4⟩
    have HF := hide (And.intro ((((HDR.out.src HG.out.1 hb0).src HG.out.2.1 hb0).alloc _).src g4 hb0) (And.intro s4 (gr_trans (gr_below HG.out.2.2 ((Below.refl _ _).alloc (Nat.le_refl _) _)) g4)))
    clear hxm s4 g4
    go_wp2_with fail
    go_ret2
    exact ⟨code, B, d, x, by rw [← HN.out]; rfl, HCB.out, HF.out.1, HF.out.2.1.more (by omega), HF.out.2.2⟩
set_option maxHeartbeats 4000000 in
theorem drawDropCurve_any (A : Option Addr) (c : Nat) (xs : List Int) (w : World) (h : RB w A xs) (hx : ∀ x ∈ xs, 0 ≤ x ∧ x ≤ 255) (hn : xs.length ≤ 1048576) :
    Calls Try.prog 34 #[.slice A xs.length c] w (RetDA w) := by
  have hs := Sr.new (c := c) w h
  have hb := (Below.refl w.heap.size w).alloc (Nat.le_refl _) (.cells #[.slice A xs.length c, .int .i64 0, .int .u64 0] 101)
  have HD := hide (l14At_any w.heap.size A c xs 0 _ hs (by omega) hx hn)
  clear h hx hs
  go_enter Try.func34, Try.ntmps34
  go_wp2_with fail
  refine (l00From_any A xs.length c w).mono ?_
  rintro e w1 ⟨rfl, rfl⟩
  go_wp2_with fail
  refine HD.out.mono ?_
  rintro e w2 ⟨code, B, d, k, rfl, hcb, hdr, s2, g2⟩
  have HF := hide (And.intro (hdr.mono (base' := w.heap.size) (by simp)) (below_gr hb g2 (Nat.le_refl _)))
  clear hdr s2 g2 hb
  go_wp2_with fail
  go_ret2
  exact ⟨code, B, d, k, rfl, hcb, HF.out.1, HF.out.2⟩
set_option maxHeartbeats 4000000 in
theorem drawOwnCrossings_any (A : Option Addr) (c : Nat) (xs : List Int) (w : World) (h : RB w A xs) (hx : ∀ x ∈ xs, 0 ≤ x ∧ x ≤ 255) (hn : xs.length ≤ 1048576) :
    Calls Try.prog 37 #[.slice A xs.length c] w (RetDA w) := by
  have hs := Sr.new (c := c) w h
  have hb := (Below.refl w.heap.size w).alloc (Nat.le_refl _) (.cells #[.slice A xs.length c, .int .i64 0, .int .u64 0] 101)
  have HD := hide (l14At_any w.heap.size A c xs 0 _ hs (by omega) hx hn)
  clear h hx hs
  go_enter Try.func37, Try.ntmps37
  go_wp2_with fail
  refine (l00From_any A xs.length c w).mono ?_
  rintro e w1 ⟨rfl, rfl⟩
  go_wp2_with fail
  refine HD.out.mono ?_
  rintro e w2 ⟨code, B, d, k, rfl, hcb, hdr, s2, g2⟩
  have HF := hide (And.intro (hdr.mono (base' := w.heap.size) (by simp)) (below_gr hb g2 (Nat.le_refl _)))
  clear hdr s2 g2 hb
  go_wp2_with fail
  go_ret2
  exact ⟨code, B, d, k, rfl, hcb, HF.out.1, HF.out.2⟩
set_option maxHeartbeats 4000000 in
theorem drawMeetingsOf_any (A : Option Addr) (c : Nat) (xs : List Int) (w : World) (h : RB w A xs) (hx : ∀ x ∈ xs, 0 ≤ x ∧ x ≤ 255) (hn : xs.length ≤ 1048576) :
    Calls Try.prog 40 #[.slice A xs.length c] w (RetDB w) := by
  have hs := Sr.new (c := c) w h
  have hb := (Below.refl w.heap.size w).alloc (Nat.le_refl _) (.cells #[.slice A xs.length c, .int .i64 0, .int .u64 0] 101)
  have HD := hide (l15Bent_any w.heap.size A c xs 0 _ hs (by omega) hx hn)
  clear h hx hs
  go_enter Try.func40, Try.ntmps40
  go_wp2_with fail
  refine (l00From_any A xs.length c w).mono ?_
  rintro e w1 ⟨rfl, rfl⟩
  go_wp2_with fail
  refine HD.out.mono ?_
  rintro e w2 ⟨code, B, d, rfl, hcb, hdr, s2, g2⟩
  have HF := hide (And.intro (hdr.mono (base' := w.heap.size) (by simp)) (below_gr hb g2 (Nat.le_refl _)))
  clear hdr s2 g2 hb
  go_wp2_with fail
  go_ret
  exact ⟨code, B, d, rfl, hcb.mono (Nat.le_refl _) (by omega), HF.out.1, HF.out.2⟩
end Go.Proofs.Ytnjojnnapdhijaa

namespace Go.Proofs.Ytnjojnnapdhijaa
open Go.RowKit
set_option linter.unusedVariables false

set_option maxHeartbeats 400000 in
theorem l00Same_any (A B : Option Addr) (c d : Nat) (xs ys : List Int) (w : World) (hA : RI w A xs) (hB : RI w B ys) (hn : xs.length ≤ 1048576) (hm : ys.length ≤ 1048576) :
    Calls Try.prog 83 #[.slice A xs.length c, .slice B ys.length d] w (RetQ w (.bool (decide (xs = ys)))) := by
  by_cases hl : xs.length = ys.length
  · have HL := hide hl
    have hnm : ((xs.length : Int) != (ys.length : Int)) = false := by simp [hl]
    clear hl
    go_enter Try.func83, Try.ntmps83
    go_wp2
    go_loopw [5] (fun i wr => ∃ (k : Nat), k ≤ xs.length ∧ i = .int .i64 k ∧ Hid (xs.take k = ys.take k) ∧ ∃ n, wr = w.drewN n)
      (fun i _ => xs.length - (intOf i).toNat)
    case atStart => exact ⟨0, Nat.zero_le _, rfl, hide (by simp), 0, rfl⟩
    case round =>
      obtain ⟨k, hk, rfl, ht, n, rfl⟩ := hrel
      by_cases hlt : k < xs.length
      · obtain ⟨b, off, x, rfl, hb, hx, hc⟩ := hA.at_ hlt
        obtain ⟨b', off', y, rfl, hb', hy, hc'⟩ := hB.at_ (k := k) (by have := HL.out; omega)
        have hlt' : (k : Int) < (ys.length : Int) := by have := HL.out; omega
        by_cases hxy : x = y
        · subst hxy
          have HT := hide (take_eq_next hx hy ht.out)
          have hne : (x != x) = false := by simp
          go_wp2_with fail
          go_quiet (fail)
          go_wp2
          go_roundw
          case rel => exact ⟨k + 1, by omega, by go_num, HT, _, rfl⟩
          case measure => simp [intOf]; omega
        · have HN := hide (ne_at hx hy hxy)
          have hne : (x != y) = true := by simpa using hxy
          go_wp2_with fail
          go_quiet (fail)
          go_wp2
          go_ret
          rw [HN.out]
          exact ⟨rfl, _, by rw [World.drewN_drewN]⟩
      · go_wp2
        go_ret
        have he : xs = ys := take_eq_all HL.out (by omega) ht.out
        rw [decide_eq_true he]
        exact ⟨rfl, _, rfl⟩
  · have HN := hide (ne_len hl)
    have hnm : ((xs.length : Int) != (ys.length : Int)) = true := by rw [bne_iff_ne]; omega
    go_enter Try.func83, Try.ntmps83
    go_wp2
    go_ret
    rw [HN.out]
    exact ⟨rfl, 0, rfl⟩
/-- A function that hands back a polynomial whose coefficients lie in memory of its own. -/
def RetP (w : World) (low : Int) (xs : List Int) (e : Ending) (w' : World) : Prop :=
  ∃ A c, e = .returned (.agg #[.int .i64 low, .slice A xs.length c]) ∧ OwnI w' w.heap.size A c xs ∧ Below w.heap.size w w'

end Go.Proofs.Ytnjojnnapdhijaa

namespace Go.Proofs.Ytnjojnnapdhijaa
open Go.RowKit
set_option linter.unusedVariables false

theorem f6big_any (A : Option Addr) (n c : Nat) (w : World) : Calls Try.prog 7 #[.slice A n c] w fun e w' => e = .returned (.bool (decide (4096 < n))) ∧ w = w' := by
  by_cases h : 4096 < n
  · have h1 : (4096 : Int) < (n : Int) := by omega
    rw [decide_eq_true h]
    go_enter Try.func7, Try.ntmps7
    go_wp2_with fail
    go_ret
    exact ⟨rfl, rfl⟩
  · have h1 : ¬ (4096 : Int) < (n : Int) := by omega
    rw [decide_eq_false h]
    go_enter Try.func7, Try.ntmps7
    go_wp2_with fail
    go_ret
    exact ⟨rfl, rfl⟩
set_option maxHeartbeats 1000000 in
theorem f6ints_same (A B : Option Addr) (c d : Nat) (xs : List Int) (w : World) (hA : RI w A xs) (hB : RI w B xs) (hn : xs.length ≤ 1048576) :
    Calls Try.prog 43 #[.slice A xs.length c, .slice B xs.length d] w (RetQ w (.bool true)) := by
  have hnm : ((xs.length : Int) != (xs.length : Int)) = false := by simp
  go_enter Try.func43, Try.ntmps43
  go_wp2
  go_loopw [5] (fun i wr => ∃ (k : Nat), k ≤ xs.length ∧ i = .int .i64 k ∧ ∃ n, wr = w.drewN n)
    (fun i _ => xs.length - (intOf i).toNat)
  case atStart => exact ⟨0, Nat.zero_le _, rfl, 0, rfl⟩
  case round =>
    obtain ⟨k, hk, rfl, n, rfl⟩ := hrel
    by_cases hlt : k < xs.length
    · obtain ⟨b, off, x, rfl, hb, hx, hc⟩ := hA.at_ hlt
      obtain ⟨b', off', y, rfl, hb', hy, hc'⟩ := hB.at_ (k := k) hlt
      obtain rfl : y = x := by rw [hx] at hy; injection hy with hy; exact hy.symm
      have hne : (y != y) = false := by simp
      go_wp2_with fail
      go_quiet (fail)
      go_wp2
      go_roundw
      case rel => exact ⟨k + 1, by omega, by go_num, _, rfl⟩
      case measure => simp [intOf]; omega
    · go_wp2
      go_ret
      exact ⟨rfl, _, rfl⟩
set_option maxHeartbeats 1000000 in
theorem f6lists_same (A B : Option Addr) (c d T1 T2 : Nat) (xs : List (List Int)) (w : World) (hA : RC w T1 A xs) (hB : RC w T2 B xs) (hn : xs.length + sumLen xs ≤ 1048576) :
    Calls Try.prog 44 #[.slice A xs.length c, .slice B xs.length d] w (RetQ w (.bool true)) := by
  have hnm : ((xs.length : Int) != (xs.length : Int)) = false := by simp
  go_enter Try.func44, Try.ntmps44
  go_wp2
  go_loopw [5] (fun i wr => ∃ (k : Nat), k ≤ xs.length ∧ i = .int .i64 k ∧ ∃ n, wr = w.drewN n)
    (fun i _ => xs.length - (intOf i).toNat)
  case atStart => exact ⟨0, Nat.zero_le _, rfl, 0, rfl⟩
  case round =>
    obtain ⟨k, hk, rfl, n, hwn⟩ := hrel
    have hA1 : RC wr T1 A xs := by rw [hwn]; exact hA.drewN n
    have hB1 : RC wr T2 B xs := by rw [hwn]; exact hB.drewN n
    have HWN := hide hwn
    clear hwn
    by_cases hlt : k < xs.length
    · obtain ⟨b, off, E, f, x, rfl, hb, hx, hc, _, _, hrx⟩ := hA1.row hlt
      obtain ⟨b', off', E', f', y, rfl, hb', hy, hc', _, _, hry⟩ := hB1.row (k := k) hlt
      obtain rfl : y = x := by rw [hx] at hy; injection hy with hy; exact hy.symm
      have hxl := sumLen_row hx
      clear hx hy
      go_wp2_with fail
      go_quiet ((go_at_call 43; exact Calls.quiet_of (f6ints_same _ _ _ _ y _ (hrx.drewN _) (hry.drewN _) (by omega))))
      go_wp2_with fail
      go_roundw
      case rel => exact ⟨k + 1, by omega, by go_num, _, by rw [HWN.out, World.drewN_drewN]⟩
      case measure => simp [intOf]; omega
    · go_wp2
      go_ret
      exact ⟨rfl, _, HWN.out⟩
set_option maxHeartbeats 1000000 in
theorem sameCode_same (A B : Option Addr) (c d T1 T2 : Nat) (xs : List (List Int)) (w : World) (hA : RC w T1 A xs) (hB : RC w T2 B xs) (hn : xs.length + sumLen xs ≤ 1048576) :
    Calls Try.prog 29 #[.slice A xs.length c, .slice B xs.length d] w (RetQ w (.bool true)) := by
  have hnm : ((xs.length : Int) != (xs.length : Int)) = false := by simp
  go_enter Try.func29, Try.ntmps29
  go_wp2
  go_loopw [5] (fun i wr => ∃ (k : Nat), k ≤ xs.length ∧ i = .int .i64 k ∧ ∃ n, wr = w.drewN n)
    (fun i _ => xs.length - (intOf i).toNat)
  case atStart => exact ⟨0, Nat.zero_le _, rfl, 0, rfl⟩
  case round =>
    obtain ⟨k, hk, rfl, n, hwn⟩ := hrel
    have hA1 : RC wr T1 A xs := by rw [hwn]; exact hA.drewN n
    have hB1 : RC wr T2 B xs := by rw [hwn]; exact hB.drewN n
    have HWN := hide hwn
    clear hwn
    by_cases hlt : k < xs.length
    · obtain ⟨b, off, E, f, x, rfl, hb, hx, hc, _, _, hrx⟩ := hA1.row hlt
      obtain ⟨b', off', E', f', y, rfl, hb', hy, hc', _, _, hry⟩ := hB1.row (k := k) hlt
      obtain rfl : y = x := by rw [hx] at hy; injection hy with hy; exact hy.symm
      have hxl := sumLen_row hx
      have hdd : decide (y = y) = true := by simp
      clear hx hy
      go_wp2_with fail
      go_quiet ((go_at_call 83; exact Calls.quiet_of (l00Same_any _ _ _ _ y y _ (hrx.drewN _) (hry.drewN _) (by omega) (by omega))))
      go_wp2_with fail
      go_roundw
      case rel => exact ⟨k + 1, by omega, by go_num, _, by rw [HWN.out, World.drewN_drewN]⟩
      case measure => simp [intOf]; omega
    · go_wp2
      go_ret
      exact ⟨rfl, _, HWN.out⟩
/-- how many crossings, and a code -/
def countR (code : List (List Int)) : Int × Int := if validC code = true then (((sumLen code / 2 : Nat) : Int), 0) else (0, 1)
theorem implCountCoded_any (A : Option Addr) (c T : Nat) (code : List (List Int)) (w : World) (hc : RC w T A code) (hn : code.length + sumLen code ≤ 1048576) :
    Calls Try.prog 45 #[.slice A code.length c] w (RetV w (.tuple #[.int .i64 (countR code).1, .int .i64 (countR code).2])) := by
  cases hv : validC code
  · have hr : countR code = (0, 1) := by unfold countR; rw [hv]; rfl
    rw [hr]
    go_enter Try.func45, Try.ntmps45
    go_wp2_with fail
    refine (validCode_any _ _ T code _ hc hn).mono ?_
    rw [hv]
    rintro e w1 ⟨rfl, hb1⟩
    go_wp2_with fail
    go_ret2
    exact ⟨rfl, hb1⟩
  · have hr : countR code = (((sumLen code / 2 : Nat) : Int), 0) := by unfold countR; rw [hv]; rfl
    rw [hr]
    go_enter Try.func45, Try.ntmps45
    go_wp2_with fail
    refine (validCode_any _ _ T code _ hc hn).mono ?_
    rw [hv]
    rintro e w1 ⟨rfl, hb1⟩
    have HC := hide (countCoded_any A c T code _ (hc.below hb1) hn)
    go_wp2_with fail
    refine HC.out.mono ?_
    rintro e w2 ⟨rfl, rfl⟩
    go_wp2_with fail
    go_ret2
    exact ⟨rfl, hb1⟩
end Go.Proofs.Ytnjojnnapdhijaa

namespace Go.Proofs.Ytnjojnnapdhijaa
open Go.RowKit
set_option linter.unusedVariables false

/-- one more in row a, column b -/
def bump (a b : Nat) (t : List (List Int)) : List (List Int) := t.set a ((t.getD a []).set b ((t.getD a []).getD b 0 + 1))
/-- a square table of numbers from 0 to m -/
def Sq (n : Nat) (m : Int) (t : List (List Int)) : Prop := t.length = n ∧ ∀ r ∈ t, r.length = n ∧ ∀ v ∈ r, 0 ≤ v ∧ v ≤ m
theorem Sq.mono {n : Nat} {m m' : Int} {t : List (List Int)} (h : Sq n m t) (hm : m ≤ m') : Sq n m' t := ⟨h.1, fun r hr => ⟨(h.2 r hr).1, fun v hv => by have := (h.2 r hr).2 v hv; omega⟩⟩
theorem Sq.bump {n : Nat} {m : Int} {t : List (List Int)} {a b : Nat} (h : Sq n m t) (h0 : 0 ≤ m) (ha : a < n) (hb : b < n) : Sq n (m + 1) (bump a b t) := by
  have hta : t.getD a [] ∈ t := by
    rw [List.getD_eq_getElem?_getD, List.getElem?_eq_getElem (by rw [h.1]; exact ha)]
    exact List.getElem_mem _
  obtain ⟨g1, g2⟩ := h.2 _ hta
  refine ⟨by unfold Go.Proofs.Ytnjojnnapdhijaa.bump; rw [List.length_set]; exact h.1, fun r hr => ?_⟩
  unfold Go.Proofs.Ytnjojnnapdhijaa.bump at hr
  rcases List.mem_or_eq_of_mem_set hr with hr | rfl
  · exact ⟨(h.2 r hr).1, fun v hv => by have := (h.2 r hr).2 v hv; omega⟩
  · refine ⟨by rw [List.length_set]; exact g1, fun v hv => ?_⟩
    rcases List.mem_or_eq_of_mem_set hv with hv | rfl
    · have := g2 v hv
      omega
    · have hm : (t.getD a []).getD b 0 ∈ t.getD a [] := by
        have hlb : b < (t.getD a []).length := by rw [g1]; exact hb
        have e : (t.getD a []).getD b 0 = (t.getD a [])[b] := getD_at (List.getElem?_eq_getElem hlb)
        rw [e]
        exact List.getElem_mem hlb
      have := g2 _ hm
      omega
theorem bump_at {t : List (List Int)} {a b : Nat} {xs : List Int} {v : Int} (h : t[a]? = some xs) (hv : xs[b]? = some v) : bump a b t = t.set a (xs.set b (v + 1)) := by
  unfold bump
  rw [getD_row h, getD_at hv]
/-- the curve of an element -/
def curveOf (code : List (List Int)) (x : Int) : Nat := (plc code x).1.toNat
def meetS (a b : Nat) (t : List (List Int)) : List (List Int) := if a = b then bump a b t else bump b a (bump a b t)
def meetT (code : List (List Int)) : Nat → List (List Int)
  | 0 => List.replicate code.length (List.replicate code.length 0)
  | k + 1 => meetS (curveOf code ((k : Int) + 1)) (curveOf code (-((k : Int) + 1))) (meetT code k)
theorem meetS_sq {n a b : Nat} {m : Int} {t : List (List Int)} (h : Sq n m t) (h0 : 0 ≤ m) (ha : a < n) (hb : b < n) : Sq n (m + 2) (meetS a b t) := by
  unfold meetS
  split
  · exact (h.bump h0 ha hb).mono (by omega)
  · exact ((h.bump h0 ha hb).bump (by omega) hb ha).mono (by omega)
theorem curveOf_lt {code : List (List Int)} (hv : validC code = true) {x : Int} (hx : x ∈ code.flatten) : ∃ (i k : Nat) (xs : List Int), plc code x = ((i : Int), (k : Int)) ∧ curveOf code x = i ∧ i < code.length ∧ code[i]? = some xs ∧ xs[k]? = some x := by
  obtain ⟨i, k, xs, hi, hk, hp⟩ := apart_of_mem (valid_apart' hv) hx
  have e : plc code x = ((i : Int), (k : Int)) := by unfold plc; rw [hp]; rfl
  refine ⟨i, k, xs, e, ?_, (List.getElem?_eq_some_iff.1 hi).1, hi, hk⟩
  unfold curveOf
  rw [e]
  simp
theorem valid_at2 {code : List (List Int)} (hv : validC code = true) {k : Nat} (hk : k < sumLen code / 2) : ((k : Int) + 1) ∈ code.flatten ∧ (-((k : Int) + 1)) ∈ code.flatten :=
  ⟨valid_has hv (by omega) (by omega) (by omega), valid_has hv (by omega) (by omega) (by omega)⟩
theorem meetT_sq {code : List (List Int)} (hv : validC code = true) : ∀ k, k ≤ sumLen code / 2 → Sq code.length (2 * (k : Int)) (meetT code k)
  | 0, _ => by
    refine ⟨by simp [meetT], fun r hr => ?_⟩
    have := List.eq_of_mem_replicate hr
    subst this
    exact ⟨by simp, fun v hv => by have := List.eq_of_mem_replicate hv; omega⟩
  | k + 1, hk => by
    have ih := meetT_sq hv k (by omega)
    obtain ⟨h1, h2⟩ := valid_at2 hv (k := k) (by omega)
    obtain ⟨i, _, _, _, e1, l1, _⟩ := curveOf_lt hv h1
    obtain ⟨j, _, _, _, e2, l2, _⟩ := curveOf_lt hv h2
    unfold meetT
    rw [e1, e2]
    exact (meetS_sq ih (by omega) l1 l2).mono (by omega)
theorem sq_sum {n : Nat} {m : Int} : ∀ {t : List (List Int)}, (∀ r ∈ t, r.length = n ∧ ∀ v ∈ r, 0 ≤ v ∧ v ≤ m) → sumLen t = t.length * n
  | [], _ => by simp [sumLen]
  | r :: t, h => by
    have ih := sq_sum (n := n) (m := m) (t := t) (fun r hr => h r (List.mem_cons_of_mem _ hr))
    have h1 := (h r List.mem_cons_self).1
    unfold sumLen at ih ⊢
    rw [List.map_cons, List.sum_cons, ih, h1, List.length_cons, Nat.succ_mul]
    omega
def meetR (code : List (List Int)) : List (List Int) × Int := if validC code = true then (meetT code (sumLen code / 2), 0) else ([], 1)
theorem meetR_len (code : List (List Int)) : (meetR code).1.length + sumLen (meetR code).1 ≤ 1048576 := by
  unfold meetR
  split
  · rename_i hv
    obtain ⟨hs1, hs2, hs3⟩ := valid_sum hv
    obtain ⟨h1, h2⟩ := meetT_sq hv _ (Nat.le_refl _)
    have h3 := sq_sum h2
    have h4 : (meetT code (sumLen code / 2)).length * code.length ≤ 40 * 40 := Nat.mul_le_mul (by omega) hs1
    dsimp only
    omega
  · simp [sumLen]
end Go.Proofs.Ytnjojnnapdhijaa

namespace Go.Proofs.Ytnjojnnapdhijaa
open Go.RowKit
set_option linter.unusedVariables false

theorem numsW_range {g : Nat → Bool} : ∀ {n : Nat} {c v : Int}, (numsW g n).lookup c = some v → 0 ≤ c ∧ c < (n : Int)
  | 0, c, v, h => by cases h
  | n + 1, c, v, h => by
    unfold numsW at h
    split at h
    · have := numsW_range h
      omega
    · rw [lookup_snoc2] at h
      cases hc : (numsW g n).lookup c with
      | some u =>
        have := numsW_range hc
        omega
      | none =>
        rw [hc] at h
        simp at h
        omega
theorem numsW_inj {g : Nat → Bool} : ∀ {n : Nat} {c d v : Int}, (numsW g n).lookup c = some v → (numsW g n).lookup d = some v → c = d
  | 0, c, d, v, h, _ => by cases h
  | n + 1, c, d, v, h, h' => by
    unfold numsW at h h'
    split at h
    · rename_i hg
      rw [if_pos hg] at h'
      exact numsW_inj h h'
    · rename_i hg
      rw [if_neg hg] at h'
      rw [lookup_snoc2] at h h'
      have hok := numsW_ok g n
      cases hc : (numsW g n).lookup c with
      | some u =>
        rw [hc] at h
        injection h with h
        subst h
        have h1 := hok c u hc
        cases hd : (numsW g n).lookup d with
        | some t =>
          rw [hd] at h'
          injection h' with h'
          subst h'
          exact numsW_inj hc hd
        | none =>
          rw [hd] at h'
          simp at h'
          omega
      | none =>
        rw [hc] at h
        simp at h
        cases hd : (numsW g n).lookup d with
        | some t =>
          rw [hd] at h'
          injection h' with h'
          subst h'
          have h1 := hok d t hd
          omega
        | none =>
          rw [hd] at h'
          simp at h'
          omega
theorem numsW_sur {g : Nat → Bool} : ∀ {n : Nat} {v : Int}, 0 ≤ v → v < ((numsW g n).length : Int) → ∃ c, (numsW g n).lookup c = some v
  | 0, v, h1, h2 => by simp [numsW] at h2; omega
  | n + 1, v, h1, h2 => by
    unfold numsW at h2 ⊢
    split
    · rename_i hg
      rw [if_pos hg] at h2
      exact numsW_sur h1 h2
    · rename_i hg
      rw [if_neg hg, List.length_append, List.length_singleton] at h2
      by_cases hv : v < ((numsW g n).length : Int)
      · obtain ⟨c, hc⟩ := numsW_sur h1 hv
        exact ⟨c, by rw [lookup_snoc2, hc]; rfl⟩
      · refine ⟨(n : Int), ?_⟩
        rw [lookup_snoc2, numsW_fresh g n _ (Int.le_refl _), if_pos rfl]
        simp
        omega
theorem renC_flatten (f : Int → Option Int) (code : List (List Int)) : (renC f code).flatten = code.flatten.filterMap (renX f) := by
  unfold renC renRow
  induction code with
  | nil => rfl
  | cons x t ih => rw [List.map_cons, List.flatten_cons, List.flatten_cons, List.filterMap_append, ih]
theorem renX_some {f : Int → Option Int} {x b : Int} (h : renX f x = some b) : ∃ v, f (crI x) = some v ∧ b = if 0 < x then v + 1 else -v - 1 := by
  unfold renX at h
  cases hf : f (crI x) with
  | none => rw [hf] at h; cases h
  | some v =>
    rw [hf] at h
    injection h with h
    exact ⟨v, rfl, h.symm⟩
theorem crI_back {x y : Int} (h : crI x = crI y) (hs : 0 < x ↔ 0 < y) : x = y := by unfold crI at h; omega
theorem without_good {code : List (List Int)} {N : Nat} (g : Nat → Bool) (hN : sumLen code = 2 * N) (h : Good N code.flatten) : Good (numsW g N).length (renC (numF (numsW g N)) code).flatten := by
  have hok := numsW_ok g N
  rw [renC_flatten]
  constructor
  · unfold List.Nodup
    rw [List.pairwise_filterMap]
    refine List.Pairwise.imp ?_ h.1
    intro x y hxy a ha b hb e
    subst e
    obtain ⟨u, h1, h2⟩ := renX_some ha
    obtain ⟨v, h3, h4⟩ := renX_some hb
    have b1 := hok _ _ h1
    have b2 := hok _ _ h3
    have hs : (0 < x ↔ 0 < y) ∧ u = v := by
      rw [h2] at h4
      split at h4 <;> split at h4 <;> omega
    obtain ⟨hs, rfl⟩ := hs
    exact hxy (crI_back (numsW_inj h1 h3) hs)
  · intro b hb
    obtain ⟨x, hx, hb⟩ := List.mem_filterMap.1 hb
    obtain ⟨u, h1, h2⟩ := renX_some hb
    have b1 := hok _ _ h1
    split at h2 <;> omega
theorem without_len {code : List (List Int)} {N : Nat} (g : Nat → Bool) (hN : sumLen code = 2 * N) (h : Good N code.flatten) : sumLen (renC (numF (numsW g N)) code) = 2 * (numsW g N).length := by
  have hgood := without_good g hN h
  have hfl : code.flatten.length = 2 * N := by rw [flatten_len]; exact hN
  have h1 : (renC (numF (numsW g N)) code).flatten.length ≤ (bothL (numsW g N).length).length := len_le_of_sub hgood.1 fun x hx => bothL_mem.2 (hgood.2 x hx)
  have h2 : (bothL (numsW g N).length).length ≤ (renC (numF (numsW g N)) code).flatten.length := len_le_of_sub (bothL_nodup _) fun b hb => by
    obtain ⟨b0, b1, b2⟩ := bothL_mem.1 hb
    rw [renC_flatten, List.mem_filterMap]
    by_cases hp : 0 < b
    · obtain ⟨c, hc⟩ := numsW_sur (g := g) (n := N) (v := b - 1) (by omega) (by omega)
      have hr := numsW_range hc
      refine ⟨c + 1, h.all hfl (by omega) (by omega) (by omega), ?_⟩
      have e : crI (c + 1) = c := by unfold crI; omega
      rw [renX_up (v := b - 1) (by rw [e]; exact hc) (by omega)]
      congr 1
      omega
    · obtain ⟨c, hc⟩ := numsW_sur (g := g) (n := N) (v := -b - 1) (by omega) (by omega)
      have hr := numsW_range hc
      refine ⟨-c - 1, h.all hfl (by omega) (by omega) (by omega), ?_⟩
      have e : crI (-c - 1) = c := by unfold crI; omega
      rw [renX_down (v := -b - 1) (by rw [e]; exact hc) (by omega)]
      congr 1
      omega
  rw [bothL_length, flatten_len] at h1 h2
  omega
theorem without_valid {code : List (List Int)} (g : Nat → Bool) (h : validC code = true) : validC (withoutC g code) = true := by
  obtain ⟨N, h1, h2, h3, h4⟩ := validC_true h
  have e : sumLen code / 2 = N := by omega
  have hl := numsW_len g N
  unfold withoutC
  rw [e, validC_good (N := (numsW g N).length) (by rw [renC_length]; exact h1) (without_len g h2 h4) (by omega)]
  exact decide_eq_true (without_good g h2 h4)
theorem without_sum {code : List (List Int)} (g : Nat → Bool) (h : validC code = true) : sumLen (withoutC g code) = 2 * (numsW g (sumLen code / 2)).length := by
  obtain ⟨N, h1, h2, h3, h4⟩ := validC_true h
  have e : sumLen code / 2 = N := by omega
  unfold withoutC
  rw [e]
  exact without_len g h2 h4
theorem numsW_lt {g : Nat → Bool} {n k : Nat} (hk : k < n) (hg : g k = true) : (numsW g n).length < n := by
  induction n with
  | zero => omega
  | succ n ih =>
    unfold numsW
    split
    · have := numsW_len g n
      omega
    · rename_i hn
      have : k ≠ n := fun e => hn (e ▸ hg)
      have := ih (by omega)
      simp
      omega
theorem numsW_congr {g g' : Nat → Bool} : ∀ {n : Nat}, (∀ k, k < n → g k = g' k) → numsW g n = numsW g' n
  | 0, _ => rfl
  | n + 1, h => by
    unfold numsW
    rw [h n (by omega), numsW_congr fun k hk => h k (by omega)]
end Go.Proofs.Ytnjojnnapdhijaa

namespace Go.Proofs
open Go.Shelf
def Try.delC_ren : Go.Shelf.Ren := ⟨fun | 45 => 86 | n => n, fun | 22 => 24 | 23 => 34 | 3 => 3 | 4 => 4 | 0 => 0 | n => n, fun | n => n⟩
theorem Try.delC : Go.Proofs.SlLaysE.n45 Try.prog Try.delC_ren := {
  mixed := by kernel_rfl
  f45 := ⟨Try.f86.name, by decide, Try.func86.trans (congrArg some (by kernel_rfl))⟩
  t0 := Try.underlying0
  a0 := Try.isAgg0
  z0 := Try.sizeOf0
  v0 := Try.zeroValue0
  t3 := Try.underlying3
  a3 := Try.isAgg3
  z3 := Try.sizeOf3
  v3 := Try.zeroValue3
  t4 := Try.underlying4
  a4 := Try.isAgg4
  z4 := Try.sizeOf4
  v4 := Try.zeroValue4
  t22 := Try.underlying24
  a22 := Try.isAgg24
  z22 := Try.sizeOf24
  v22 := Try.zeroValue24
  a23 := Try.isAgg34
  z23 := Try.sizeOf34 }
end Go.Proofs
namespace Go.Proofs.Ytnjojnnapdhijaa
open Go.RowKit Go.Sort Go.Lib
set_option linter.unusedVariables false

def encHd (h : Hd) : Value := .slice h.A h.n h.c
instance : Inhabited Hd := ⟨⟨none, 0, 0⟩⟩
theorem heap_putRow {α : Type} [Inhabited α] (enc : α → Value) {w : World} {g n : Nat} {cur : Array Value} {e : TypeId} {fr : Nat × Nat} (d : Array α) (hb : w.heap[g]? = some (.cells cur e fr)) :
    (putRow enc (Sort.ahead w n) g 0 d).heap[g]? = some (.cells (putCells enc 0 d cur) e fr) := by
  simp [putRow, mapBlock, Sort.ahead, Array.getElem?_modify, hb, onCells]
theorem grownBy_putRow {α : Type} [Inhabited α] (enc : α → Value) {w : World} {g n : Nat} (d : Array α) : w.grownBy (putRow enc (Sort.ahead w n) g 0 d) (some g) := by
  refine ⟨rfl, rfl, rfl, by simp [putRow, mapBlock, Sort.ahead], fun k hk hne => ?_⟩
  have : g ≠ k := fun e => hne (by rw [e])
  simp [putRow, mapBlock, Sort.ahead, Array.getElem?_modify, this]
theorem take_putCells {α : Type} [Inhabited α] (enc : α → Value) (cur : Array Value) (ts : List α) (m : Nat) (hm : m ≤ ts.length) (h : ts.length ≤ cur.size) : (putCells enc 0 ts.toArray cur).toList.take m = (ts.take m).map enc := by
  apply List.ext_getElem?
  intro j
  by_cases hj : j < m
  · rw [List.getElem?_take_of_lt hj, Array.getElem?_toList, List.getElem?_map, List.getElem?_take_of_lt hj]
    have hj2 : j < ts.length := by omega
    simp [putCells, hj2, show j < cur.size by omega]
  · rw [List.getElem?_take_eq_none (by omega), List.getElem?_eq_none (by simp; omega)]
theorem flat_encHd (hs : List Hd) : hs.flatMap hdE.cells = hs.map encHd := by
  induction hs with
  | nil => rfl
  | cons h t ih =>
    rw [List.flatMap_cons, ih]
    rfl
theorem erase_at {α : Type} {l : List α} {i k : Nat} (hi : i ≤ l.length) : (l.take i ++ l.drop (i + 1))[k]? = if k < i then l[k]? else l[k + 1]? := by
  rw [List.getElem?_append]
  have hl : (l.take i).length = i := by rw [List.length_take]; omega
  rw [hl]
  split
  · rename_i h
    rw [List.getElem?_take_of_lt h]
  · rename_i h
    rw [List.getElem?_drop]
    congr 1
    omega
set_option maxRecDepth 100000 in
theorem delete_any (A : Option Addr) (c base top i : Nat) (code : List (List Int)) (w : World) (h : OwnC w base top A c code) (hi : i < code.length) (hn : code.length ≤ 1048576) :
    Calls Try.prog 86 #[.slice A code.length c, .int .i64 (i : Int), .int .i64 ((i : Int) + 1)] w fun e w' => e = .returned (.slice A (code.take i ++ code.drop (i + 1)).length c) ∧ OwnC w' base top A c (code.take i ++ code.drop (i + 1)) ∧ w.grownBy w' (blk A) := by
  obtain ⟨hs, h1, h2, h3, h4, h5⟩ := h
  have hI : ∀ {base' : Nat} {A' : Option Addr} {c' : Nat} {ys : List Int}, OwnI w base' A' c' ys → blk A' = none ∨ blk A' ≠ blk A := fun hoo => by
    rw [← intE_own] at hoo
    exact Own.own_ne hoo h1 (by decide)
  have h1' := h1
  rcases h1.2 with ⟨hv, hz⟩ | ⟨g, cap, cur, hv, hb, hh, hnc, hcm, hcs, ht⟩
  · omega
  · injection hv with hA hn' hc'
    subst hA hc'
    have hsz : hdE.size = 1 := rfl
    rw [hsz, Nat.mul_one] at hcs
    rw [hsz, Nat.mul_one] at ht
    have hH : Holds encHd w g 0 hs.toArray := by
      intro j hj
      have hj' : j < hs.length := by simpa using hj
      refine ⟨?_, by simp [World.frozen?, hh]⟩
      have h6 : (cur.toList.take hs.length)[j]? = (hs.map encHd)[j]? := by rw [ht, flat_encHd]
      rw [List.getElem?_take_of_lt hj'] at h6
      simp only [World.cell?, hh, Nat.zero_add]
      simp only [Option.isSome_none, Bool.false_eq_true, if_false]
      rw [← Array.getElem?_toList, h6]
      simp [hj']
    obtain ⟨i0, hi0, hz0, hz1, hz2⟩ := info_parts hdE.inf
    have hcall := AnyE.slices_Delete Try.delC encHd (fun x => rfl) ⟨none, 0, 0⟩ (fun w => by kernel_rfl) i0 hi0 hz1 g 0 c i (i + 1) hs.toArray w hH (by simpa using hnc) (by simpa [maxLen] using hcm) (by omega) (by simp; omega)
    simp only [List.size_toArray] at hcall
    rw [h3] at hcall
    refine hcall.mono ?_
    rintro e w' ⟨rfl, q, rfl⟩
    have hlen : (code.take i ++ code.drop (i + 1)).length = code.length - (i + 1 - i) := by
      rw [List.length_append, List.length_take, List.length_drop]
      omega
    have hlen2 : (hs.take i ++ hs.drop (i + 1)).length = code.length - (i + 1 - i) := by
      rw [List.length_append, List.length_take, List.length_drop]
      omega
    have hg := grownBy_putRow encHd (w := w) (g := g) (n := q) (hs.toArray.toList.take i ++ hs.toArray.toList.drop (i + 1) ++ List.replicate (i + 1 - i) (⟨none, 0, 0⟩ : Hd)).toArray
    refine ⟨by rw [hlen], ⟨hs.take i ++ hs.drop (i + 1), ?_, h2, by rw [hlen, hlen2], fun k hd xs e1 e2 => ?_, fun a b hd hd' e1 e2 hab => ?_⟩, hg⟩
    · refine ⟨by rw [hdE.flen], .inr ⟨g, c, _, rfl, hb, heap_putRow encHd _ hh, by rw [hlen2]; omega, hcm, by rw [hsz, Nat.mul_one]; simp [putCells, hcs], ?_⟩⟩
      rw [hsz, Nat.mul_one, flat_encHd, take_putCells encHd cur _ _ (by simp) (by simp; omega)]
      congr 1
      rw [List.take_append_of_le_length (Nat.le_refl _), List.take_length]
    · rw [erase_at (by omega)] at e1 e2
      split at e1
      · rename_i hk
        rw [if_pos hk] at e2
        obtain ⟨m1, m2, m3⟩ := h4 k hd xs e1 e2
        exact ⟨m1, m2.grown hg (hI m2), m3⟩
      · rename_i hk
        rw [if_neg hk] at e2
        obtain ⟨m1, m2, m3⟩ := h4 _ hd xs e1 e2
        exact ⟨m1, m2.grown hg (hI m2), m3⟩
    · rw [erase_at (by omega)] at e1 e2
      split at e1 <;> split at e2 <;> exact h5 _ _ hd hd' e1 e2 (by omega)
end Go.Proofs.Ytnjojnnapdhijaa

namespace Go.Proofs.Ytnjojnnapdhijaa
open Go.RowKit
set_option linter.unusedVariables false

set_option maxHeartbeats 1000000 in
theorem slIndex_any (A : Option Addr) (c : Nat) (xs : List Int) (n : Int) (w : World) (h : RI w A xs) (hn : xs.length ≤ 1048576) :
    Calls Try.prog 136 #[.slice A xs.length c, .int .i64 n] w (fun e w' => (∃ k : Int, e = .returned (.int .i64 k) ∧ decide (0 ≤ k) = hasB xs n) ∧ w = w') := by
  go_enter Try.func136, Try.ntmps136
  go_wp2
  go_loop [8] (fun i => ∃ k : Nat, k ≤ xs.length ∧ i = .int .i64 k ∧ Hid (hasB (xs.take k) n = false)) (fun i => xs.length - (intOf i).toNat)
  case atStart => exact ⟨0, Nat.zero_le _, rfl, hide rfl⟩
  case round =>
    obtain ⟨k, hk, rfl, hall⟩ := hrel
    by_cases hlt : k < xs.length
    · obtain ⟨b, off, x, rfl, hb, hx, hc⟩ := h.at_ hlt
      cases hp : (n == x)
      · have HA := hide (any_nextH hx hall.out (by rw [beq_eq_false_iff_ne] at *; exact fun e => hp e.symm))
        go_wp2_with fail
        go_round
        case rel => exact ⟨k + 1, by omega, by go_num, HA⟩
        case measure => simp [intOf]; omega
      · have HV := hide (any_hitH (n := n) hx (by rw [beq_iff_eq] at *; exact hp.symm))
        go_wp2_with fail
        go_ret
        refine ⟨⟨k, rfl, ?_⟩, rfl⟩
        rw [HV.out, decide_eq_true (by omega)]
    · have hall' := hall.out
      rw [List.take_of_length_le (by omega)] at hall'
      have HV := hide hall'
      clear hall hall'
      go_wp2_with fail
      go_ret
      refine ⟨⟨-1, rfl, ?_⟩, rfl⟩
      rw [HV.out]
      rfl
theorem slContains_any (A : Option Addr) (c : Nat) (xs : List Int) (n : Int) (w : World) (h : RI w A xs) (hn : xs.length ≤ 1048576) :
    Calls Try.prog 126 #[.slice A xs.length c, .int .i64 n] w (fun e w' => e = .returned (.bool (hasB xs n)) ∧ w = w') := by
  go_enter Try.func126, Try.ntmps126
  go_wp2_with fail
  refine (slIndex_any _ _ xs n _ h hn).mono ?_
  rintro e w1 ⟨⟨k, rfl, hk⟩, rfl⟩
  have HK := hide hk
  clear hk
  go_wp2_with fail
  go_ret
  rw [← HK.out]
  first
    | exact ⟨rfl, rfl⟩
    | (refine ⟨?_, rfl⟩; simp)
end Go.Proofs.Ytnjojnnapdhijaa

namespace Go.Proofs.Ytnjojnnapdhijaa
open Go.RowKit
set_option linter.unusedVariables false

set_option maxRecDepth 100000 in
set_option maxHeartbeats 4000000 in
theorem without_any (A : Option Addr) (c T : Nat) (B : Option Addr) (d : Nat) (gs : List Int) (code : List (List Int)) (w : World) (hc : RC w T A code) (hg : RI w B gs) (hgl : gs.length ≤ 1048576) (hn : code.length + sumLen code ≤ 1048576)
    (hI : ∀ xs ∈ code, ∀ x ∈ xs, -9223372036854775808 < x ∧ x ≤ 9223372036854775807) :
    Calls Try.prog 87 #[.slice A code.length c, .slice B gs.length d] w (RetC w (withoutC (fun k : Nat => hasB gs (k : Int)) code)) := by
  have hmm := @run_makeMap Try.prog
  have HI := hide hI
  obtain ⟨N, hNe⟩ : ∃ N, N = sumLen code / 2 := ⟨_, rfl⟩
  have hNl : N ≤ 1048576 := by omega
  have HNE := hide hNe
  have e1 : (sumLen code : Int) / 2 = (N : Int) := by omega
  obtain ⟨g, hgd⟩ : ∃ g : Nat → Bool, g = fun k : Nat => hasB gs (k : Int) := ⟨_, rfl⟩
  rw [← hgd]
  have HG : Hid (∀ k, g k = hasB gs (k : Int)) := hide (fun k => by rw [hgd])
  have hc0 := hc.alloc (.map #[] 0)
  clear hI hNe hgd
  go_enter Try.func87, Try.ntmps87
  go_wp2_with (go_at_call 93; refine (countCoded_any _ _ T code _ hc0 hn).mono ?_; rintro e w' ⟨rfl, rfl⟩)
  go_loopw [10] (fun s wr => ∃ (k : Nat) (l : List (Int × Int)), k ≤ N ∧ s = .int .i64 (k : Int) ∧ Hid (l = numsW g k) ∧ Mp nmE wr w.heap.size l ∧ Below w.heap.size w wr) (fun s _ => N - (intOf s).toNat)
  case atStart => exact ⟨0, [], Nat.zero_le _, rfl, hide rfl, Mp.made w _ rfl, (Below.refl _ _).alloc (Nat.le_refl _) _⟩
  case round =>
    clear hmm
    obtain ⟨k, l, hk, rfl, hl, hmp, hB⟩ := hrel
    have hz := hB.size
    have hgr := hg.below hB
    by_cases hlt : k < N
    · cases hgk : hasB gs (k : Int)
      · have HL : Hid (l ++ [((k : Int), (l.length : Int))] = numsW g (k + 1)) := hide (by rw [numsW_no (by rw [HG.out]; exact hgk), ← hl.out])
        have HN : Hid (l.lookup (k : Int) = none) := hide (by rw [hl.out]; exact numsW_fresh g k _ (Int.le_refl _))
        have hln : (Builtin.len_ #[120] 3 #[.map (some w.heap.size)]).run Try.prog wr = .ok (.int .i64 (l.length : Int)) wr := hmp.len _
        go_wp2_with (first
          | (go_at_call 126; refine (slContains_any _ _ gs _ _ hgr hgl).mono ?_; rintro e w' ⟨rfl, rfl⟩)
          | (at_mapUpdate; refine wpList_put rfl (.tmp 17) (.tmp 18) (.tmp 20) nmE rfl w.heap.size l rfl hmp (k : Int) rfl (l.length : Int) rfl HN.out ?_; intro w2 hmp2 hg2))
        go_roundw
        case rel => exact ⟨k + 1, _, by omega, by go_num, HL, hmp2, hB.grown hg2 hz (fun k hk => by injection hk with hk; omega)⟩
        case measure => simp [intOf]; omega
      · have HL : Hid (l = numsW g (k + 1)) := hide (by rw [numsW_yes (by rw [HG.out]; exact hgk)]; exact hl.out)
        go_wp2_with (go_at_call 126; refine (slContains_any _ _ gs _ _ hgr hgl).mono ?_; rintro e w' ⟨rfl, rfl⟩)
        go_roundw
        case rel => exact ⟨k + 1, l, by omega, by go_num, HL, hmp, hB⟩
        case measure => simp [intOf]; omega
    · have hl' := hl.out
      rw [show k = N by omega] at hl'
      have HV : Hid (renC (numF l) code = withoutC g code) := hide (by unfold withoutC; rw [hl', HNE.out])
      have HBD : Hid (∀ c v, l.lookup c = some v → 0 ≤ v ∧ v ≤ 1048576) := hide (fun c v hcv => by
        have h1 := numsW_ok g N
        rw [← hl'] at h1
        have h2 := h1 c v hcv
        have h3 := numsW_len g N
        rw [← hl'] at h3
        omega)
      clear hl hl'
      go_wp2_with fail
      refine (renamed_any _ _ T _ l code _ (hc.below hB) hn hmp HI.out HBD.out).mono ?_
      rw [HV.out]
      rintro e w2 ⟨A2, c2, rfl, own, hb2⟩
      have hB2 := hB.trans (hb2.mono hB.size)
      have hzz := hB.size
      go_wp2_with fail
      go_ret
      exact ⟨A2, c2, rfl, own.mono hzz (Nat.le_refl _), hB2⟩

theorem boolR_at {w : World} {A : Option Addr} {l : List Bool} (h : RG boolE w A l) {k : Nat} (hk : k < l.length) : ∃ b off, A = some ⟨b, off, none⟩ ∧ b < w.heap.size ∧ w.cell? ⟨b, off + k, none⟩ = some (.bool (l.getD k false)) := by
  obtain ⟨b, off, x, rfl, hb, hx, hc⟩ := h.row hk
  have hc0 := hc 0 _ rfl
  have e0 : k * boolE.size + 0 = k := by simp [boolE]
  rw [e0] at hc0
  exact ⟨b, off, rfl, hb, by rw [List.getD_eq_getElem?_getD, hx]; exact hc0⟩

set_option maxRecDepth 100000 in
set_option maxHeartbeats 8000000 in
theorem l15Without_any (A : Option Addr) (c T : Nat) (Bg : Option Addr) (dg : Nat) (bs : List Bool) (code : List (List Int)) (w : World) (hc : RC w T A code) (hg : RG boolE w Bg bs) (hn : code.length + sumLen code ≤ 1048576) (hN : sumLen code / 2 ≤ 120) (hbl0 : bs.length = sumLen code / 2)
    (hI : ∀ xs ∈ code, ∀ x ∈ xs, x ≠ 0 ∧ -((sumLen code / 2 : Nat) : Int) ≤ x ∧ x ≤ ((sumLen code / 2 : Nat) : Int)) :
    Calls Try.prog 90 #[.slice A code.length c, .slice Bg bs.length dg] w (RetC w (withoutC (fun k => bs.getD k false) code)) := by
  obtain ⟨N, hNe⟩ : ∃ N, N = sumLen code / 2 := ⟨_, rfl⟩
  rw [← hNe] at hN hI hbl0
  have HNe := hide hNe
  have HI := hide hI
  have hbl := hide hbl0
  have e1 : (sumLen code : Int) / 2 = (N : Int) := by omega
  have hmk := fun W : World => run_make_names N (by omega) W
  obtain ⟨g, hgd⟩ : ∃ g : Nat → Bool, g = fun k => bs.getD k false := ⟨_, rfl⟩
  rw [← hgd]
  have HG : Hid (∀ k, g k = bs.getD k false) := hide (fun k => by rw [hgd])
  have hnm : Own intE (w.alloc (.cells (madeCells intE.z.cells ((N + 1) * intE.size)) 2)) w.heap.size (some ⟨w.heap.size, 0, none⟩) (N + 1) (nameL N []) := by
    rw [nameL_nil]
    exact Own.made (E := intE) w _ 0 rfl rfl (Nat.le_refl _) (by omega)
  have hB0 : Below w.heap.size w (w.alloc (.cells (madeCells intE.z.cells ((N + 1) * intE.size)) 2)) := (Below.refl _ _).alloc (Nat.le_refl _) _
  clear hI hNe hgd hbl0
  go_enter Try.func90, Try.ntmps90
  go_wp2_with (go_at_call 88; refine (l15Many_any _ _ T code _ hc hn).mono ?_; rintro e w' ⟨rfl, rfl⟩)
  go_loopw [6, 7] (fun s6 s7 wr => ∃ (k : Nat) (acc : List (Int × Int)), k ≤ N ∧ s7 = .int .i64 ((k : Int) + 1) ∧ s6 = .int .i64 (acc.length : Int) ∧ Hid (acc = numsW g k) ∧ Own intE wr w.heap.size (some ⟨w.heap.size, 0, none⟩) (N + 1) (nameL N acc) ∧ Below w.heap.size w wr) (fun _ s7 _ => N + 1 - (intOf s7).toNat)
  case atStart => exact ⟨0, [], Nat.zero_le _, by go_num, rfl, hide rfl, hnm, hB0⟩
  case round =>
    clear hnm hB0 hmk e1
    obtain ⟨k, acc, hk, rfl, rfl, hacc, onm, hB⟩ := hrel
    have hz := hB.size
    have hal : acc.length ≤ k := by rw [hacc.out]; exact numsW_len g k
    obtain ⟨K1, hK1⟩ : ∃ K1 : Int, K1 = (k : Int) + 1 := ⟨_, rfl⟩
    have HK1 := hide hK1
    by_cases hlt : k < N
    · obtain ⟨b, off, rfl, hb, hcell⟩ := boolR_at (hg.below hB) (k := k) (by rw [hbl.out]; exact hlt)
      have hkb : (k : Int) < (bs.length : Int) := by have := hbl.out; omega
      have wk : IntKind.i64.wrap (K1 - 1) = (k : Int) := by rw [IntKind.wrap_i64]; omega
      have wk1 : IntKind.i64.wrap (K1 + 1) = K1 + 1 := by rw [IntKind.wrap_i64]; omega
      have hKN : K1 < (N : Int) + 1 := by omega
      have hbk : bs.getD k false = g k := (HG.out k).symm
      rw [hbk] at hcell
      rw [← hK1]
      clear hbk hK1
      cases hgk : g k
      · rw [hgk] at hcell
        have hfresh : acc.lookup (((k + 1 : Nat) : Int) - 1) = none := by rw [hacc.out]; exact numsW_fresh g k _ (by omega)
        have hq := nameL_none (N := N) (j := k + 1) (by omega) hfresh
        obtain ⟨q, hqe, _, hgs, hcell2, hfr, hput⟩ := intE_at onm hq
        injection hqe with hqe
        injection hqe with hqe
        subst hqe
        have hp := hput ((acc.length : Int) + 1)
        have HSET : Hid ((nameL N acc).set (k + 1) ((acc.length : Int) + 1) = nameL N (acc ++ [((k : Int), (acc.length : Int))])) := hide (by rw [nameL_set (by omega) hfresh, show ((k + 1 : Nat) : Int) - 1 = (k : Int) by omega])
        rw [HSET.out] at hp
        have HA : Hid (acc ++ [((k : Int), (acc.length : Int))] = numsW g (k + 1)) := hide (by rw [numsW_no hgk, ← hacc.out])
        have hBS := hB.setCell (p := ⟨w.heap.size, k + 1, none⟩) (Nat.le_refl _) (.int .i64 ((acc.length : Int) + 1))
        obtain ⟨j1, hj1⟩ : ∃ j1 : Nat, j1 = k + 1 := ⟨_, rfl⟩
        have hjK : K1 = (j1 : Int) := by have := HK1.out; omega
        have HJ := hide hj1
        rw [← hj1] at hp hcell2 hfr hBS
        obtain ⟨a1, ha1⟩ : ∃ a1 : Int, a1 = (acc.length : Int) + 1 := ⟨_, rfl⟩
        have wa : IntKind.i64.wrap ((acc.length : Int) + 1) = a1 := by rw [IntKind.wrap_i64]; omega
        have HA1 := hide ha1
        rw [← ha1] at hp hBS
        clear hq hput hfresh hj1 ha1 hgk
        subst hjK
        go_wp2_with fail
        go_roundw
        case rel => exact ⟨k + 1, acc ++ [((k : Int), (acc.length : Int))], by omega, (by first | (rw [HJ.out]; go_num; done) | (rw [HJ.out]; done)), by rw [HA1.out]; simp, HA, hp.1, hBS⟩
        case measure => have := HJ.out; simp [intOf]; omega
      · rw [hgk] at hcell
        have HA : Hid (acc = numsW g (k + 1)) := hide (by rw [numsW_yes hgk]; exact hacc.out)
        clear hgk
        go_wp2_with fail
        go_roundw
        case rel => exact ⟨k + 1, acc, by omega, by rw [HK1.out]; go_num, rfl, HA, onm, hB⟩
        case measure => have := HK1.out; simp [intOf]; omega
    · have hacc' := hacc.out
      rw [show k = N by omega] at hacc'
      have HACC := hide hacc'
      have hKN : ¬ ((k : Int) + 1 < (N : Int) + 1) := by omega
      obtain ⟨F, hF⟩ : ∃ F, F = numF acc := ⟨_, rfl⟩
      have HF := hide hF
      have HV : Hid (renC F code = withoutC g code) := hide (by unfold withoutC; rw [hF, hacc', HNe.out])
      have hok := numsW_ok g N
      rw [← hacc'] at hok
      have HOK := hide hok
      have hzo : w.heap.size + 1 ≤ wr.heap.size := (onm.ge (g := w.heap.size) rfl).2
      have he : OwnC (wr.alloc (.cells #[] 34)) (w.heap.size + 1) (wr.alloc (.cells #[] 34)).heap.size (some ⟨wr.heap.size, 0, none⟩) 0 [] := (OwnC.empty_ wr _ rfl hzo).mono (Nat.le_refl _) (by simp)
      have he2 := onm.alloc (.cells #[] 34)
      have he3 := hB.alloc hz (.cells #[] 34)
      have hk2 := hk
      have hal2 : acc.length ≤ 120 := by omega
      clear hacc hacc' hF hok onm hB hK1 HK1
      go_wp2_with fail
      clear hKN
      go_loopw [8, 9] (fun o i wr => ∃ (k : Nat) (A1 : Option Addr) (c1 : Nat) (zs : List (List Int)), k ≤ code.length ∧ i = .int .i64 k ∧ o = .slice A1 zs.length c1 ∧ Hid (zs = renC F (code.take k)) ∧ OwnC wr (w.heap.size + 1) wr.heap.size A1 c1 zs ∧ Own intE wr w.heap.size (some ⟨w.heap.size, 0, none⟩) (N + 1) (nameL N acc) ∧ Below w.heap.size w wr) (fun _ i _ => code.length - (intOf i).toNat)
      case atStart => exact ⟨0, _, 0, [], Nat.zero_le _, rfl, rfl, hide rfl, he, he2, he3⟩
      case round =>
        clear he he2 he3 hzo hz
        obtain ⟨k, A1, c1, zs, hk, rfl, rfl, hzs, own, onm, hB⟩ := hrel
        obtain ⟨wo, rfl⟩ : ∃ wo : World, wo = wr := ⟨_, rfl⟩
        have hz := hB.size
        have hzo : w.heap.size + 1 ≤ wo.heap.size := (onm.ge (g := w.heap.size) rfl).2
        have hcr := hc.below hB
        have hzl : zs.length ≤ 1048576 := by rw [hzs.out, renC_length, List.length_take]; omega
        by_cases hlt : k < code.length
        · obtain ⟨b, off, B, d, xs, rfl, hb, hx, hcc, hd1, hd2, hR⟩ := hcr.row hlt
          have hxl := sumLen_row hx
          have HX := hide hx
          have hxi := HI.out xs (List.mem_of_getElem? hx)
          have HXI := hide hxi
          clear hx hd1 hd2 hxi hR hcc hb hcr
          have hri : OwnI (wo.alloc (.cells #[] 2)) wo.heap.size (some ⟨wo.heap.size, 0, none⟩) 0 [] := OwnI.empty wo (Nat.le_refl _)
          have hBi : Below wo.heap.size wo (wo.alloc (.cells #[] 2)) := (Below.refl _ _).alloc (Nat.le_refl _) _
          go_wp2_with fail
          go_loopw [10, 11] (fun o i wr => ∃ (j : Nat) (A2 : Option Addr) (c2 : Nat) (ys : List Int), j ≤ xs.length ∧ i = .int .i64 j ∧ o = .slice A2 ys.length c2 ∧ Hid (ys = renRow F (xs.take j)) ∧ OwnI wr wo.heap.size A2 c2 ys ∧ Below wo.heap.size wo wr) (fun _ i _ => xs.length - (intOf i).toNat)
          case atStart => exact ⟨0, _, 0, [], Nat.zero_le _, rfl, rfl, hide rfl, hri, hBi⟩
          case round =>
            clear hri hBi
            obtain ⟨j, A2, c2, ys, hj, rfl, rfl, hys, owni, hBi⟩ := hrel
            have hzi := hBi.size
            have hBB := hB.trans (hBi.mono hz)
            have hyl : ys.length ≤ j := by rw [hys.out]; have := renRow_len F (xs.take j); rw [List.length_take] at this; omega
            obtain ⟨b', off', B', d', xs', hA', hb, hx', hcc, _, _, hR⟩ := (hc.below hBB).row hlt
            injection hA' with hA'
            injection hA' with e1 e2
            subst e1 e2
            obtain rfl : xs = xs' := by have := HX.out; rw [hx'] at this; injection this with this; exact this.symm
            clear hx'
            by_cases hjl : j < xs.length
            · obtain ⟨b2, off2, x, rfl, hb2, hx, hcx⟩ := hR.at_ hjl
              obtain ⟨i0, i1, i2⟩ := HXI.out x (List.mem_of_getElem? hx)
              obtain ⟨m, hm⟩ : ∃ m : Nat, crI x + 1 = (m : Int) := ⟨(crI x + 1).toNat, by unfold crI; omega⟩
              have hmN : m < N + 1 := by unfold crI at hm; omega
              have hcm : crI x = (m : Int) - 1 := by omega
              have hmj : (m : Int) < (N : Int) + 1 := by omega
              have hwn : -9223372036854775808 < x := by omega
              have hwx : x ≤ 9223372036854775807 := by omega
              have onm2 := onm.below hBi
              cases hlx : acc.lookup (crI x) with
              | none =>
                have hq := nameL_none (N := N) hmN (show acc.lookup ((m : Int) - 1) = none by rw [← hcm]; exact hlx)
                obtain ⟨q, hqe, _, hgs, hcell, hfr, _⟩ := intE_at onm2 hq
                injection hqe with hqe
                injection hqe with hqe
                subst hqe
                have HY : Hid (ys = renRow F (xs.take (j + 1))) := hide (by rw [renRow_next hx, renX_none (show F (crI x) = none by rw [HF.out]; exact hlx), ← hys.out]; simp)
                clear hx hlx hq hcm
                go_wp2_with (go_at_call 89; refine (l15Size_any _ _ hwn hwx).mono ?_; rintro e w' ⟨rfl, rfl⟩; rw [hm])
                go_roundw
                case rel => exact ⟨j + 1, A2, c2, ys, by omega, by go_num, rfl, HY, owni, hBi⟩
                case measure => simp [intOf]; omega
              | some v =>
                have hq := nameL_some (N := N) hmN (show acc.lookup ((m : Int) - 1) = some v by rw [← hcm]; exact hlx)
                obtain ⟨q, hqe, _, hgs, hcell, hfr, _⟩ := intE_at onm2 hq
                injection hqe with hqe
                injection hqe with hqe
                subst hqe
                obtain ⟨v0, v1⟩ := HOK.out _ _ hlx
                obtain ⟨nx, hnxe⟩ : ∃ nx : Int, nx = v + 1 := ⟨_, rfl⟩
                rw [← hnxe] at hcell
                have hFv : F (crI x) = some v := by rw [HF.out]; exact hlx
                have hn0 : (nx != 0) = true := by rw [bne_iff_ne]; omega
                by_cases hx0 : 0 < x
                · have hx1 : ¬ x < 0 := by omega
                  have HY : Hid (ys ++ [nx] = renRow F (xs.take (j + 1))) := hide (by rw [renRow_next hx, renX_up hFv hx0, ← hys.out, hnxe]; simp)
                  clear hx hlx hFv hq hcm hnxe
                  go_wp2_with (first
                    | (go_at_call 89; refine (l15Size_any _ _ hwn hwx).mono ?_; rintro e w' ⟨rfl, rfl⟩; rw [hm])
                    | (at_builtin; refine wpList_append_ints rfl (.tmp 71) (.tmp 73) rfl wo.heap.size A2 c2 ys rfl (owni.alloc _) (some ⟨wr.heap.size, 0, none⟩) 1 [nx] rfl (OwnI.new_ (base := 0) _ _ [nx] #[.int .i64 nx] (by simp) rfl (Nat.zero_le _) (by simp [maxLen])).rd (by simp; omega) (by simp; omega) (ys ++ [nx]) rfl ?_; intro A3 c3 w3 own3 hg3 hb3))
                  go_roundw
                  case rel => exact ⟨j + 1, A3, c3, ys ++ [nx], by omega, by go_num, by simp, HY, own3, (hBi.alloc hzi _).grown hg3 (by simp; omega) (fun q hq => (owni.ge hq).1)⟩
                  case measure => simp [intOf]; omega
                · have hx1 : x < 0 := by omega
                  have wneg : IntKind.i64.wrap (-nx) = -nx := by rw [IntKind.wrap_i64]; omega
                  have HY : Hid (ys ++ [-nx] = renRow F (xs.take (j + 1))) := hide (by rw [renRow_next hx, renX_down hFv hx0, ← hys.out, hnxe]; simp; omega)
                  clear hx hlx hFv hq hcm hnxe
                  go_wp2_with (first
                    | (go_at_call 89; refine (l15Size_any _ _ hwn hwx).mono ?_; rintro e w' ⟨rfl, rfl⟩; rw [hm])
                    | (at_builtin; refine wpList_append_ints rfl (.tmp 81) (.tmp 84) rfl wo.heap.size A2 c2 ys rfl (owni.alloc _) (some ⟨wr.heap.size, 0, none⟩) 1 [-nx] rfl (OwnI.new_ (base := 0) _ _ [-nx] #[.int .i64 (-nx)] (by simp) rfl (Nat.zero_le _) (by simp [maxLen])).rd (by simp; omega) (by simp; omega) (ys ++ [-nx]) rfl ?_; intro A3 c3 w3 own3 hg3 hb3))
                  go_roundw
                  case rel => exact ⟨j + 1, A3, c3, ys ++ [-nx], by omega, by go_num, by simp, HY, own3, (hBi.alloc hzi _).grown hg3 (by simp; omega) (fun q hq => (owni.ge hq).1)⟩
                  case measure => simp [intOf]; omega
            · have hys' := hys.out
              rw [List.take_of_length_le (by omega)] at hys'
              have HZ : Hid (zs ++ [ys] = renC F (code.take (k + 1))) := hide (by rw [renC_next HX.out, ← hzs.out, hys'])
              have own2 := own.below hBi
              have onm2 := (onm.below hBi).alloc (.cells #[.slice A2 ys.length c2] 34)
              have hB3 := hBB.alloc hBB.size (.cells #[.slice A2 ys.length c2] 34)
              clear hys hys'
              go_wp2_with (at_builtin; refine wpList_append_code rfl (.tmp 86) (.tmp 88) rfl (w.heap.size + 1) wo.heap.size A1 c1 zs rfl (own2.alloc _) (some ⟨wr.heap.size, 0, none⟩) 1 rfl A2 c2 ys (RG.fresh (E := hdE) wr _ rfl ⟨A2, ys.length, c2⟩ #[.slice A2 ys.length c2] rfl _) (owni.alloc _) hzo (by simp; omega) hzl (zs ++ [ys]) rfl ?_; intro A3 c3 w3 own3 hg3 hb3)
              have on3 := onm2.grown hg3 (.inr (fun e => by have := (own2.ge_ (g := w.heap.size) e.symm).1; omega))
              have hB4 := hB3.grown hg3 (by simp; omega) (fun q hq => by have := (own2.ge_ hq).1; omega)
              go_roundw
              case rel => exact ⟨k + 1, A3, c3, zs ++ [ys], by omega, by go_num, by simp, HZ, own3, on3, hB4⟩
              case measure => simp [intOf]; omega
        · have hzs' := hzs.out
          rw [List.take_of_length_le (by omega), HV.out] at hzs'
          have HZ := hide hzs'
          clear hzs hzs'
          go_wp2_with fail
          go_ret
          rw [← HZ.out]
          exact ⟨A1, c1, rfl, own.mono (by omega) (Nat.le_refl _), hB⟩
end Go.Proofs.Ytnjojnnapdhijaa

namespace Go.Proofs.Ytnjojnnapdhijaa
open Go.RowKit
set_option linter.unusedVariables false

theorem hasIndex_any (x : Int) (n : Nat) (w : World) (hn : n ≤ 1048576) : Calls Try.prog 104 #[.int .i64 x, .int .i64 (n : Int)] w (fun e w' => e = .returned (.bool (inB x 0 ((n : Int) - 1))) ∧ w = w') := by
  have wl : IntKind.i64.wrap ((n : Int) - 1) = (n : Int) - 1 := by rw [IntKind.wrap_i64]; omega
  go_enter Try.func104, Try.ntmps104
  go_wp2_with (go_at_call 57; refine (inRange_any _ _ _ _).mono ?_; rintro e w' ⟨rfl, rfl⟩)
  go_ret
  exact ⟨rfl, rfl⟩
set_option maxHeartbeats 1000000 in
theorem codedCode_one (A B : Option Addr) (c d T : Nat) (code : List (List Int)) (j : Int) (w : World) (hc : RC w T A code) (hB : RI w B [j]) (hn : code.length + sumLen code ≤ 1048576) :
    Calls Try.prog 60 #[.slice A code.length c, .slice B 1 d] w (RetV w (.int .i64 (curveC code j))) := by
  cases hv : validC code
  · have HV := hide (show curveC code j = 1 by unfold curveC; rw [if_neg (by rw [hv]; simp)])
    go_enter Try.func60, Try.ntmps60
    go_wp2_with fail
    refine (validCode_any _ _ T code _ hc hn).mono ?_
    rw [hv]
    rintro e w1 ⟨rfl, hb⟩
    go_wp2_with fail
    go_ret
    rw [HV.out]
    exact ⟨rfl, hb⟩
  · have HV := hide hv
    have hlen : code.length ≤ 1048576 := by omega
    go_enter Try.func60, Try.ntmps60
    go_wp2_with fail
    refine (validCode_any _ _ T code _ hc hn).mono ?_
    rw [hv]
    rintro e w1 ⟨rfl, hb⟩
    have hB1 := hB.below hb
    clear hv
    go_wp2_with fail
    go_loop [12] (fun i => ∃ k : Nat, k ≤ 1 ∧ i = .int .i64 k ∧ Hid (k = 1 → inB j 0 ((code.length : Int) - 1) = true)) (fun i => 1 - (intOf i).toNat)
    case atStart => exact ⟨0, Nat.zero_le _, rfl, hide (fun e => by cases e)⟩
    case round =>
      obtain ⟨k, hk, rfl, hall⟩ := hrel
      by_cases hlt : k < 1
      · obtain rfl : k = 0 := by omega
        obtain ⟨b, off, x, rfl, hbb, hx, hcc⟩ := hB1.at_ (k := 0) (by simp)
        have hxj : j = x := by simpa using hx
        subst hxj
        have hcc0 : w1.cell? ⟨b, off, none⟩ = some (.int .i64 j) := hcc
        clear hx
        cases hi : inB j 0 ((code.length : Int) - 1)
        · have H2 := hide (show curveC code j = 2 by unfold curveC; rw [if_pos HV.out, if_neg (by rw [hi]; simp)])
          go_wp2_with (go_at_call 104; refine (hasIndex_any _ _ _ hlen).mono ?_; rintro e w' ⟨rfl, rfl⟩)
          go_ret
          rw [H2.out]
          exact ⟨rfl, hb⟩
        · have HI := hide hi
          go_wp2_with (go_at_call 104; refine (hasIndex_any _ _ _ hlen).mono ?_; rintro e w' ⟨rfl, rfl⟩)
          go_round
          case rel => exact ⟨1, by omega, by go_num, by first | exact hide (fun _ => HI.out) | exact hide (fun _ => trivial)⟩
          case measure => simp [intOf]
      · obtain rfl : k = 1 := by omega
        have H0 := hide (show curveC code j = 0 by unfold curveC; rw [if_pos HV.out, if_pos (hall.out rfl)])
        clear hall
        go_wp2_with fail
        go_ret
        rw [H0.out]
        exact ⟨rfl, hb⟩
end Go.Proofs.Ytnjojnnapdhijaa

namespace Go.Proofs.Ytnjojnnapdhijaa
open Go.RowKit
set_option linter.unusedVariables false

def cutAt (d : List (List Int)) (n : Nat) : List (List Int) := d.take n ++ d.drop (n + 1)
def dropC (code : List (List Int)) (n : Nat) : List (List Int) := withoutC (fun k : Nat => hasB ((code.getD n []).map crI) (k : Int)) code
def dropR (code : List (List Int)) (j : Int) : List (List Int) × Int := if curveC code j = 0 then (cutAt (dropC code j.toNat) j.toNat, 0) else ([], curveC code j)
theorem cutAt_len (d : List (List Int)) (n : Nat) : (cutAt d n).length ≤ d.length ∧ sumLen (cutAt d n) ≤ sumLen d := by
  unfold cutAt
  constructor
  · rw [List.length_append, List.length_take, List.length_drop]
    omega
  · have e : d = d.take n ++ d.drop n := (List.take_append_drop n d).symm
    have h1 : sumLen (d.drop (n + 1)) ≤ sumLen (d.drop n) := by
      cases h : d.drop n with
      | nil =>
        have : d.drop (n + 1) = [] := by rw [List.drop_eq_nil_iff] at h ⊢; omega
        rw [this]
        exact Nat.le_refl _
      | cons r t =>
        have : d.drop (n + 1) = t := by rw [← List.drop_drop, h]; rfl
        rw [this]
        unfold sumLen
        rw [List.map_cons, List.sum_cons]
        omega
    have h2 : sumLen d = sumLen (d.take n) + sumLen (d.drop n) := by
      conv => lhs; rw [e]
      exact sumLen_app _ _
    rw [sumLen_app, h2]
    omega
theorem withoutC_size (g : Nat → Bool) (code : List (List Int)) : (withoutC g code).length = code.length ∧ sumLen (withoutC g code) ≤ sumLen code := ⟨renC_length _ _, renC_sum _ _⟩
theorem dropR_len (code : List (List Int)) (j : Int) (hn : code.length + sumLen code ≤ 1048576) : (dropR code j).1.length + sumLen (dropR code j).1 ≤ 1048576 := by
  unfold dropR
  split
  · have h1 := cutAt_len (dropC code j.toNat) j.toNat
    have h2 := withoutC_size (fun k : Nat => hasB ((code.getD j.toNat []).map crI) (k : Int)) code
    unfold dropC at h1 ⊢
    dsimp only
    omega
  · simp [sumLen]
theorem curveC_zeroD {code : List (List Int)} {j : Int} (h : curveC code j = 0) : validC code = true ∧ ∃ n : Nat, j = (n : Int) ∧ n < code.length := by
  unfold curveC at h
  split at h
  · rename_i hv
    split at h
    · rename_i hi
      obtain ⟨h1, h2⟩ := inB_true.1 hi
      exact ⟨hv, j.toNat, by omega, by omega⟩
    · cases h
  · cases h
set_option maxRecDepth 100000 in
set_option maxHeartbeats 4000000 in
theorem implDrop_any (A : Option Addr) (c T : Nat) (code : List (List Int)) (j : Int) (w : World) (hc : RC w T A code) (hn : code.length + sumLen code ≤ 1048576) :
    Calls Try.prog 35 #[.slice A code.length c, .int .i64 j] w (RetCC w (dropR code j).1 (dropR code j).2) := by
  have hr1 : RI (w.alloc (.cells #[.int .i64 j] 2)) (some ⟨w.heap.size, 0, none⟩) [j] := (OwnI.new (base := 0) w [j] #[.int .i64 j] rfl (Nat.zero_le _) (by simp [maxLen])).rd
  have ha : Below w.heap.size w (w.alloc (.cells #[.int .i64 j] 2)) := (Below.refl _ _).alloc (Nat.le_refl _) _
  have hca := hc.below ha
  by_cases h0 : curveC code j = 0
  · obtain ⟨hv, n, rfl, hjl⟩ := curveC_zeroD h0
    obtain ⟨hs1, hs2, hs3⟩ := valid_sum hv
    obtain ⟨b, off, B, d, ys, rfl, hb, hxs, hce0, hd1, hd2, hr0⟩ := hc.row hjl
    have hxl := sumLen_row hxs
    have HV : Hid (dropR code (n : Int) = (cutAt (withoutC (fun k : Nat => hasB (ys.map crI) (k : Int)) code) n, 0)) := hide (by
      unfold dropR dropC
      rw [if_pos h0, show (n : Int).toNat = n by omega, getD_row hxs])
    have HW := hide (valid_wide hv)
    have HX := hide hxs
    have hjI : (n : Int) < (code.length : Int) := by omega
    clear hv hxs hs3 hd1 hd2
    go_enter Try.func35, Try.ntmps35
    go_wp2_with fail
    refine (codedCode_one _ _ _ _ T code _ _ hca hr1 hn).mono ?_
    rw [h0]
    rintro e w1 ⟨rfl, hb1⟩
    have hB1 := ha.trans (hb1.mono ha.size)
    have hz1 := hB1.size
    have he : OwnI (w1.alloc (.cells #[] 2)) w.heap.size (some ⟨w1.heap.size, 0, none⟩) 0 [] := OwnI.empty w1 hz1
    have hB1' := hB1.alloc hz1 (.cells #[] 2)
    have hce := (hB1'.cell (p := ⟨b, off + n, none⟩) hb).trans hce0
    clear h0 hce0
    go_wp2_with fail
    go_loopw [7, 23] (fun o i wr => ∃ (k : Nat) (A1 : Option Addr) (c1 : Nat) (zs : List Int), k ≤ ys.length ∧ i = .int .i64 k ∧ o = .slice A1 zs.length c1 ∧ Hid (zs = (ys.take k).map crI) ∧ OwnI wr w.heap.size A1 c1 zs ∧ Below w.heap.size w wr) (fun _ i _ => ys.length - (intOf i).toNat)
    case atStart => exact ⟨0, _, 0, [], Nat.zero_le _, rfl, rfl, hide (by simp), he, hB1'⟩
    case round =>
      clear he hB1' hce
      obtain ⟨k, A1, c1, zs, hk, rfl, rfl, hzs, own, hB⟩ := hrel
      have hr := hr0.below hB
      have hz := hB.size
      have hzl : zs.length ≤ k := by rw [hzs.out, List.length_map, List.length_take]; omega
      by_cases hlt : k < ys.length
      · obtain ⟨b2, off2, x, rfl, hb2, hx, hcx⟩ := hr.at_ hlt
        obtain ⟨g5, g6⟩ := HW.out ys (List.mem_of_getElem? HX.out) x (List.mem_of_getElem? hx)
        obtain ⟨cr, hcr⟩ : ∃ cr, cr = crI x := ⟨_, rfl⟩
        have HC := hide hcr
        have HN : Hid (zs ++ [cr] = (ys.take (k + 1)).map crI) := hide (by rw [List.take_add_one, hx, List.map_append, ← hzs.out, hcr]; rfl)
        clear hx hcr
        go_wp2_with (first
          | (go_at_call 85; refine (crossingOf_any _ _ g5 g6).mono ?_; rw [← HC.out]; rintro e w' ⟨rfl, rfl⟩)
          | (at_builtin; refine wpList_append_ints rfl (.tmp 27) (.tmp 30) rfl w.heap.size A1 c1 zs rfl (own.alloc _) (some ⟨wr.heap.size, 0, none⟩) 1 [cr] rfl (OwnI.new (base := 0) wr [cr] #[.int .i64 cr] rfl (Nat.zero_le _) (by simp [maxLen])).rd (by simp; omega) (by simp; omega) (zs ++ [cr]) rfl ?_; intro A3 c3 w3 own3 hg3 hb3))
        have hB3 := (hB.alloc hz (.cells #[.int .i64 cr] 2)).grown hg3 (by simp; omega) (fun q hq => (own.ge hq).1)
        go_roundw
        case rel => exact ⟨k + 1, A3, c3, zs ++ [cr], by omega, by go_num, by simp, HN, own3, hB3⟩
        case measure => simp [intOf]; omega
      · have hzs' := hzs.out
        rw [List.take_of_length_le (by omega)] at hzs'
        have HZ : Hid (withoutC (fun k : Nat => hasB (ys.map crI) (k : Int)) code = withoutC (fun k : Nat => hasB zs (k : Int)) code) := hide (by rw [hzs'])
        have hzl2 : zs.length ≤ 1048576 := by omega
        clear hzs hzs'
        go_wp2_with fail
        refine (without_any _ _ T _ _ zs code _ (hc.below hB) own.rd hzl2 hn HW.out).mono ?_
        obtain ⟨dd, hdd⟩ : ∃ dd, dd = withoutC (fun k : Nat => hasB zs (k : Int)) code := ⟨_, rfl⟩
        have hdl : Hid (dd.length = code.length) := hide (by rw [hdd]; exact (withoutC_size _ _).1)
        have HD := hide hdd
        rw [← hdd]
        rintro e w2 ⟨A2, c2, rfl, own2, hb2⟩
        have hB2 := hB.trans (hb2.mono hz)
        have hz2 := hB2.size
        have wn1 : IntKind.i64.wrap ((n : Int) + 1) = (n : Int) + 1 := by rw [IntKind.wrap_i64]; omega
        clear hdd
        go_wp2_with fail
        refine (delete_any _ _ _ _ n dd _ own2 (by have := hdl.out; omega) (by have := hdl.out; omega)).mono ?_
        rintro e w3 ⟨rfl, own3, hg3⟩
        have hB3 := hB2.grown hg3 hz2 (fun q hq => by have := (own2.ge_ hq).1; omega)
        have hs3 := hg3.size
        go_wp2_with fail
        refine bodyPost_ret (v := .tuple #[.slice A2 (dd.take n ++ dd.drop (n + 1)).length c2, .int .i64 0]) (by simp [results, Try.results35, go_sem]) rfl ?_
        rw [HV.out, HZ.out, ← HD.out]
        exact ⟨A2, c2, rfl, own3.mono hz hs3, hB3⟩
  · obtain ⟨q, hq⟩ : ∃ q, q = curveC code j := ⟨_, rfl⟩
    have HV : Hid (dropR code j = ([], q)) := hide (by unfold dropR; rw [if_neg h0, hq])
    have hq0 : (q != 0) = true := by rw [hq]; simpa using h0
    clear h0
    go_enter Try.func35, Try.ntmps35
    go_wp2_with fail
    refine (codedCode_one _ _ _ _ T code _ _ hca hr1 hn).mono ?_
    rw [← hq]
    rintro e w1 ⟨rfl, hb1⟩
    have hB1 := ha.trans (hb1.mono ha.size)
    clear hq
    go_wp2_with fail
    refine bodyPost_ret (v := .tuple #[.slice none 0 0, .int .i64 q]) (by simp [results, Try.results35, go_sem]) rfl ?_
    rw [HV.out]
    exact ⟨none, 0, rfl, OwnC.nil _ _ _, hB1⟩
end Go.Proofs.Ytnjojnnapdhijaa
