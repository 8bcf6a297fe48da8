/-
  Contracts: parts of the library's stable sort at rows of a code: exchanging ranges, rotating, sorting by insertion. Conditions: at most 64 rows of at most 1048576 numbers.
-/
import Derived.Test.YtnjojnnapdhijaaSwapM
import Derived.BigRegion
namespace Go.Proofs.Ytnjojnnapdhijaa
open Go.RowKit
set_option linter.unusedVariables false

theorem grown_drew_ {a b : World} {r : Option Nat} (h : a.grownBy b r) : a.grownBy b.drew r := ⟨h.os, h.tape, h.output, h.size, h.block⟩
theorem grown_as {a b b' : World} {r : Option Nat} (h : a.grownBy b r) (h1 : b'.os = b.os) (h2 : b'.tape = b.tape) (h3 : b'.output = b.output) (h4 : b'.heap = b.heap) : a.grownBy b' r :=
  ⟨h1.trans h.os, h2.trans h.tape, h3.trans h.output, by rw [h4]; exact h.size, fun q hq hr => by rw [h4]; exact h.block q hq hr⟩
set_option maxHeartbeats 4000000 in
theorem swapRange_any (g c base top a b n : Nat) (code : List (List Int)) (w : World) (h : OwnC w base top (some ⟨g, 0, none⟩) c code) (hab : a + n ≤ b) (hb : b + n ≤ code.length) (hl : code.length ≤ 64) :
    Calls Try.prog 157 #[.slice (some ⟨g, 0, none⟩) code.length c, .int .i64 (a : Int), .int .i64 (b : Int), .int .i64 (n : Int), .func (.func 82) #[] #[]] w fun e w' => e = .returned (.tuple #[]) ∧ ∃ t, OwnC w' base top (some ⟨g, 0, none⟩) c t ∧ SwR code t a b n ∧ w.grownBy w' (some g) := by
  go_enter Try.func157, Try.ntmps157
  go_wp2_with fail
  go_loopw [10] (fun s wr => ∃ (k : Nat) (t : List (List Int)), k ≤ n ∧ s = .int .i64 (k : Int) ∧ Hid (SwR code t a b k) ∧ OwnC wr base top (some ⟨g, 0, none⟩) c t ∧ w.grownBy wr (some g)) (fun s _ => n - (intOf s).toNat)
  case atStart => exact ⟨0, code, Nat.zero_le _, rfl, hide SwR.start, h, World.grownBy.refl _ _⟩
  case round =>
    obtain ⟨k, t, hk, rfl, hsw, own, hg⟩ := hrel
    by_cases hlt : k < n
    · have hlk : (k : Int) < (n : Int) := by omega
      have htl := hsw.out.len
      obtain ⟨p, hp⟩ : ∃ p : Nat, p = a + k := ⟨_, rfl⟩
      obtain ⟨q, hq⟩ : ∃ q : Nat, q = b + k := ⟨_, rfl⟩
      have hwp : IntKind.i64.wrap ((a : Int) + (k : Int)) = (p : Int) := by rw [IntKind.wrap_i64]; omega
      have hwq : IntKind.i64.wrap ((b : Int) + (k : Int)) = (q : Int) := by rw [IntKind.wrap_i64]; omega
      have hSW := hide (hsw.out.step (by omega) (by omega))
      rw [← hp, ← hq] at hSW
      obtain ⟨B1, d1, r1, B2, d2, r2, hgs, hgb, hr1, hr2, hc1, hc2, hf1, hf2, _, _, own2, hg2⟩ := own.swap (i := p) (j := q) (by omega) (by omega) (by omega)
      have hpq : p < q := by omega
      have hpl : (p : Int) < (code.length : Int) := by omega
      have hql : (q : Int) < (code.length : Int) := by omega
      have HO := hide own2
      have HG := hide (grown_drew_ (grown_trans hg hg2))
      clear hsw own own2 hg hg2 htl hp hq hr1 hr2 hgs hgb
      go_wp2_with fail
      go_region
      all_goals go_wp2
      all_goals go_roundw
      case rel => exact ⟨k + 1, _, by omega, by go_num, hSW, HO.out, HG.out⟩
      case measure => simp [intOf]; omega
    · have hlk : ¬ (k : Int) < (n : Int) := by omega
      obtain rfl : k = n := by omega
      go_wp2_with fail
      refine bodyPost_end (results_none rfl _ _ _) rfl ?_
      exact ⟨rfl, t, own, hsw.out, hg⟩
set_option maxHeartbeats 4000000 in
theorem rotate_any (g c base top a m b : Nat) (code : List (List Int)) (w : World) (h : OwnC w base top (some ⟨g, 0, none⟩) c code) (ham : a < m) (hmb : m < b) (hb : b ≤ code.length) (hl : code.length ≤ 64) :
    Calls Try.prog 141 #[.slice (some ⟨g, 0, none⟩) code.length c, .int .i64 (a : Int), .int .i64 (m : Int), .int .i64 (b : Int), .func (.func 82) #[] #[]] w fun e w' => e = .returned (.tuple #[]) ∧ ∃ t, OwnC w' base top (some ⟨g, 0, none⟩) c t ∧ RotE code t a m b ∧ w.grownBy w' (some g) := by
  have hw1 : IntKind.i64.wrap ((m : Int) - (a : Int)) = ((m - a : Nat) : Int) := by rw [IntKind.wrap_i64]; omega
  have hw2 : IntKind.i64.wrap ((b : Int) - (m : Int)) = ((b - m : Nat) : Int) := by rw [IntKind.wrap_i64]; omega
  have HR0 : Hid (Rot code code a m b (m - a) (b - m)) := hide (Rot.start (by omega) (by omega))
  obtain ⟨i0, hi0⟩ : ∃ i0, i0 = m - a := ⟨_, rfl⟩
  obtain ⟨j0, hj0⟩ : ∃ j0, j0 = b - m := ⟨_, rfl⟩
  rw [← hi0] at hw1 HR0
  rw [← hj0] at hw2 HR0
  have hi1 : 1 ≤ i0 := by omega
  have hj1 : 1 ≤ j0 := by omega
  clear hi0 hj0
  go_enter Try.func141, Try.ntmps141
  go_wp2_with fail
  go_loopw [10, 11] (fun s10 s11 wr => ∃ (i j : Nat) (t : List (List Int)), 1 ≤ i ∧ 1 ≤ j ∧ s10 = .int .i64 (i : Int) ∧ s11 = .int .i64 (j : Int) ∧ Hid (Rot code t a m b i j) ∧ OwnC wr base top (some ⟨g, 0, none⟩) c t ∧ w.grownBy wr (some g)) (fun s10 s11 _ => (intOf s10).toNat + (intOf s11).toNat)
  case atStart => exact ⟨i0, j0, code, hi1, hj1, rfl, rfl, HR0, h, World.grownBy.refl _ _⟩
  case round =>
    clear h hw1 hw2 hi1 hj1
    obtain ⟨i, j, t, hi, hj, rfl, rfl, hR, own, hg⟩ := hrel
    have q1 := hR.out.ii
    have q2 := hR.out.jj
    have q3 := hR.out.re.1
    have hwi : IntKind.i64.wrap ((m : Int) - (i : Int)) = ((m - i : Nat) : Int) := by rw [IntKind.wrap_i64]; omega
    obtain ⟨mi, hmi⟩ : ∃ mi, mi = m - i := ⟨_, rfl⟩
    rw [← hmi] at hwi
    by_cases hij : i = j
    · subst hij
      have hne : ((i : Int) != (i : Int)) = false := by simp
      have HS := hide (swapRange_any g c base top (m - i) m i t wr own (by omega) (by omega) (by omega))
      rw [← hmi, q3] at HS
      have HMI := hide hmi
      clear hmi
      go_wp2_with fail
      refine HS.out.mono ?_
      rintro e w2 ⟨rfl, t2, own2, hs2, hg2⟩
      rw [HMI.out] at hs2
      have HF := hide (hR.out.last (by omega) (by omega) (by omega) hs2)
      go_wp2_with fail
      refine bodyPost_end (results_none rfl _ _ _) rfl ?_
      exact ⟨rfl, t2, own2, HF.out, grown_trans hg hg2⟩
    · have hne : ((i : Int) != (j : Int)) = true := by simpa using fun e : (i : Int) = (j : Int) => hij (by omega)
      by_cases hgt : j < i
      · have hd : (i : Int) > (j : Int) := by omega
        have hwj : IntKind.i64.wrap ((i : Int) - (j : Int)) = ((i - j : Nat) : Int) := by rw [IntKind.wrap_i64]; omega
        obtain ⟨ij, hij2⟩ : ∃ ij, ij = i - j := ⟨_, rfl⟩
        rw [← hij2] at hwj
        have HS := hide (swapRange_any g c base top (m - i) m j t wr own (by omega) (by omega) (by omega))
        rw [← hmi, q3] at HS
        have HMI := hide (And.intro hmi hij2)
        have hb1 : 1 ≤ ij ∧ ij + j = i := by omega
        clear hmi hij2 hij
        go_wp2_with fail
        refine HS.out.mono ?_
        rintro e w2 ⟨rfl, t2, own2, hs2, hg2⟩
        rw [HMI.out.1] at hs2
        have HF := hide (hR.out.big (by omega) (by omega) (by omega) hgt hs2)
        rw [← HMI.out.2] at HF
        clear hs2
        go_wp2_with fail
        go_roundw
        case rel => exact ⟨ij, j, t2, by omega, hj, rfl, rfl, HF, own2, grown_trans hg hg2⟩
        case measure => simp [intOf]; omega
      · have hd : ¬ (i : Int) > (j : Int) := by omega
        have hwj : IntKind.i64.wrap ((j : Int) - (i : Int)) = ((j - i : Nat) : Int) := by rw [IntKind.wrap_i64]; omega
        have hwk0 : IntKind.i64.wrap ((m : Int) + (j : Int)) = (m : Int) + (j : Int) := by rw [IntKind.wrap_i64]; omega
        have hwk : IntKind.i64.wrap ((m : Int) + (j : Int) - (i : Int)) = ((m + j - i : Nat) : Int) := by rw [IntKind.wrap_i64]; omega
        obtain ⟨ij, hij2⟩ : ∃ ij, ij = j - i := ⟨_, rfl⟩
        obtain ⟨mj, hmj⟩ : ∃ mj, mj = m + j - i := ⟨_, rfl⟩
        rw [← hij2] at hwj
        rw [← hmj] at hwk
        have HS := hide (swapRange_any g c base top (m - i) (m + j - i) i t wr own (by omega) (by omega) (by omega))
        rw [← hmi, ← hmj, q3] at HS
        have HMI := hide (And.intro hmi (And.intro hij2 hmj))
        have hb1 : 1 ≤ ij ∧ ij + i = j := by omega
        have hlt : i < j := by omega
        clear hmi hij2 hij hmj
        go_wp2_with fail
        refine HS.out.mono ?_
        rintro e w2 ⟨rfl, t2, own2, hs2, hg2⟩
        rw [HMI.out.1, HMI.out.2.2] at hs2
        have HF := hide (hR.out.small (by omega) (by omega) (by omega) hlt hs2)
        rw [← HMI.out.2.1] at HF
        clear hs2
        go_wp2_with fail
        go_roundw
        case rel => exact ⟨i, ij, t2, hi, by omega, rfl, rfl, HF, own2, grown_trans hg hg2⟩
        case measure => simp [intOf]; omega
set_option maxHeartbeats 8000000 in
theorem insSort_any (g c base top a b : Nat) (code : List (List Int)) (w : World) (h : OwnC w base top (some ⟨g, 0, none⟩) c code) (hab : a ≤ b) (hb : b ≤ code.length) (hl : code.length ≤ 64) (hrl : ∀ r ∈ code, r.length ≤ 1048576) :
    Calls Try.prog 134 #[.slice (some ⟨g, 0, none⟩) code.length c, .int .i64 (a : Int), .int .i64 (b : Int), .func (.func 82) #[] #[]] w fun e w' => e = .returned (.tuple #[]) ∧ ∃ t, OwnC w' base top (some ⟨g, 0, none⟩) c t ∧ Re a b code t ∧ So a b t ∧ w.grownBy w' (some g) := by
  have hw1 : IntKind.i64.wrap ((a : Int) + 1) = ((a + 1 : Nat) : Int) := by rw [IntKind.wrap_i64]; omega
  obtain ⟨a1, ha1⟩ : ∃ a1, a1 = a + 1 := ⟨_, rfl⟩
  rw [← ha1] at hw1
  have HA1 := hide ha1
  clear ha1
  have HRL := hide hrl
  clear hrl
  go_enter Try.func134, Try.ntmps134
  go_wp2_with fail
  go_loopw [8] (fun s wr => ∃ (i : Nat) (s1 : List (List Int)), a + 1 ≤ i ∧ (i ≤ b ∨ i = a + 1) ∧ s = .int .i64 (i : Int) ∧ Hid (Re a b code s1) ∧ Hid (So a i s1) ∧ OwnC wr base top (some ⟨g, 0, none⟩) c s1 ∧ w.grownBy wr (some g)) (fun s _ => b - (intOf s).toNat)
  case atStart => exact ⟨a1, code, by rw [HA1.out]; exact Nat.le_refl _, .inr HA1.out, rfl, hide (Re.refl _ _ _), hide (So.small (by rw [HA1.out]; exact Nat.le_refl _)), h, World.grownBy.refl _ _⟩
  case round =>
    clear h hw1 HA1
    obtain ⟨wo, rfl⟩ : ∃ wo : World, wo = wr := ⟨_, rfl⟩
    obtain ⟨i, s1, hi, hi2, rfl, hre, hso, own, hg⟩ := hrel
    have hs1 := hre.out.1
    by_cases hlt : i < b
    · have hltI : (i : Int) < (b : Int) := by omega
      have hwi : IntKind.i64.wrap ((i : Int) + 1) = ((i + 1 : Nat) : Int) := by rw [IntKind.wrap_i64]; omega
      obtain ⟨i1, hi1⟩ : ∃ i1, i1 = i + 1 := ⟨_, rfl⟩
      rw [← hi1] at hwi
      have HI1 := hide hi1
      clear hi1
      have hg0 := World.grownBy.refl wo (some g)
      go_wp2_with fail
      go_loopw [9] (fun s wr => ∃ (j : Nat) (t : List (List Int)), a ≤ j ∧ j ≤ i ∧ s = .int .i64 (j : Int) ∧ Hid (Sink s1 t a i j) ∧ OwnC wr base top (some ⟨g, 0, none⟩) c t ∧ wo.grownBy wr (some g)) (fun s _ => (intOf s).toNat)
      case atStart => exact ⟨i, s1, by omega, Nat.le_refl _, rfl, hide Sink.start, own, hg0⟩
      case round =>
        clear own hg0
        obtain ⟨j, t, hja, hji, rfl, hsk, own, hg1⟩ := hrel
        have htl := hsk.out.re.1
        have hstop : (j = a ∨ ∃ x y, t[j]? = some x ∧ t[j - 1]? = some y ∧ cmpR y x ≤ 0) → Hid (Re a b code t ∧ So a (i + 1) t) := fun he => hide ⟨hre.out.trans (hsk.out.re.mono (Nat.le_refl _) (by omega)), hsk.out.stop (by omega) hja hji hso.out he⟩
        by_cases hgt : a < j
        · have hgtI : (j : Int) > (a : Int) := by omega
          obtain ⟨j1, rfl⟩ : ∃ j1, j = j1 + 1 := ⟨j - 1, by omega⟩
          obtain ⟨q, hq⟩ : ∃ q, q = j1 + 1 := ⟨_, rfl⟩
          have hwj : IntKind.i64.wrap ((q : Int) - 1) = (j1 : Int) := by rw [IntKind.wrap_i64]; omega
          obtain ⟨B1, d1, r1, B2, d2, r2, hgs, hgb, hr1, hr2, hc1, hc2, hf1, hf2, hrd1, hrd2, own2, hg2⟩ := own.swap (i := q) (j := j1) (by omega) (by omega) (by omega)
          have hm1 := HRL.out r1 ((hsk.out.re.2.2.trans hre.out.2.2).mem_iff.1 (List.mem_of_getElem? hr1))
          have hm2 := HRL.out r2 ((hsk.out.re.2.2.trans hre.out.2.2).mem_iff.1 (List.mem_of_getElem? hr2))
          rw [← hq] at hgtI hstop hsk ⊢
          have hpq : j1 < q := by omega
          have hpl : (q : Int) < (code.length : Int) := by omega
          have hql : (j1 : Int) < (code.length : Int) := by omega
          by_cases hneg : cmpR r1 r2 < 0
          · have HSK : Hid (Sink s1 (swp t q j1) a i j1) := hide (by
              rw [hq]
              exact (hq ▸ hsk.out : Sink s1 t a i (j1 + 1)).step (by omega) (by omega) (by omega) (by rw [← hq]; exact hr1) hr2 hneg)
            have HO := hide own2
            have HG := hide (grown_trans hg1 hg2)
            have hdl : decide (cmpR r1 r2 < 0) = true := decide_eq_true hneg
            have hCMP := fun W (e1 : RI W B1 r1) (e2 : RI W B2 r2) => sortCmp_any B1 B2 d1 d2 r1 r2 W e1 e2 hm1 hm2
            clear hstop hsk own own2 hr1 hr2 hgb htl hq
            go_wp2_with fail
            go_quiet ((first | (go_at_call 82; exact quiet1 (hCMP _ hrd1 hrd2)) | fail))
            go_wp2_with fail
            go_region
            all_goals go_wp2
            all_goals go_roundw
            case rel => exact ⟨j1, _, by omega, by omega, by go_num, HSK, HO.out, grown_as HG.out rfl rfl rfl rfl⟩
            case measure => simp [intOf]; omega
          · have HST := hstop (.inr ⟨r1, r2, hr1, by rw [hq]; exact hr2, by have := cmpR_neg r1 r2; omega⟩)
            have hdl : decide (cmpR r1 r2 < 0) = false := decide_eq_false hneg
            have hCMP := fun W (e1 : RI W B1 r1) (e2 : RI W B2 r2) => sortCmp_any B1 B2 d1 d2 r1 r2 W e1 e2 hm1 hm2
            clear hstop hsk own2 hg2 hr1 hr2 hgb htl hq
            go_wp2_with fail
            go_quiet ((first | (go_at_call 82; exact quiet1 (hCMP _ hrd1 hrd2)) | fail))
            go_wp2_with fail
            go_roundw
            case rel => exact ⟨i1, t, by rw [HI1.out]; omega, by rw [HI1.out]; omega, rfl, hide HST.out.1, hide (by rw [HI1.out]; exact HST.out.2), own, grown_as (grown_trans hg hg1) rfl rfl rfl rfl⟩
            case measure => have := HI1.out; simp [intOf]; omega
        · have hgtI : ¬ (j : Int) > (a : Int) := by omega
          have HST := hstop (.inl (by omega))
          clear hstop hsk htl
          go_wp2_with fail
          go_quiet (fail)
          go_wp2_with fail
          go_roundw
          case rel => exact ⟨i1, t, by rw [HI1.out]; omega, by rw [HI1.out]; omega, rfl, hide HST.out.1, hide (by rw [HI1.out]; exact HST.out.2), own, grown_as (grown_trans hg hg1) rfl rfl rfl rfl⟩
          case measure => have := HI1.out; simp [intOf]; omega
    · have hltI : ¬ (i : Int) < (b : Int) := by omega
      have HF : Hid (So a b s1) := hide (by
        rcases hi2 with h | h
        · rw [show b = i by omega]; exact hso.out
        · exact So.small (by omega))
      clear hso hi2
      go_wp2_with fail
      refine bodyPost_end (results_none rfl _ _ _) rfl ?_
      exact ⟨rfl, s1, own, hre.out, HF.out, hg⟩
end Go.Proofs.Ytnjojnnapdhijaa
