/-
  Contract: the library's merge in place, the general case. Conditions: at most 64 rows of at most 1048576 numbers.
-/
import Derived.Test.YtnjojnnapdhijaaStab2
import Derived.Deep.CutRange
namespace Go.Proofs.Ytnjojnnapdhijaa
open Go.RowKit
set_option linter.unusedVariables false

set_option maxRecDepth 20000 in
set_option maxHeartbeats 8000000 in
theorem symC_any (g c base top a m b : Nat) (code : List (List Int)) (w : World) (h : OwnC w base top (some ⟨g, 0, none⟩) c code) (hb : b ≤ code.length) (ham : a + 1 < m) (hmb : m + 1 < b) (hl : code.length ≤ 64) (hrl : ∀ r ∈ code, r.length ≤ 1048576) (hs1 : So a m code) (hs2 : So m b code)
    (ih : ∀ (a' m' b' : Nat) (cd : List (List Int)) (W : World), b' - a' < b - a → OwnC W base top (some ⟨g, 0, none⟩) c cd → a' < m' → m' < b' → b' ≤ cd.length → cd.length ≤ 64 → (∀ r ∈ cd, r.length ≤ 1048576) → So a' m' cd → So m' b' cd → Calls Try.prog 135 #[.slice (some ⟨g, 0, none⟩) cd.length c, .int .i64 (a' : Int), .int .i64 (m' : Int), .int .i64 (b' : Int), .func (.func 82) #[] #[]] W (RetMg g c base top a' b' cd W)) :
    Calls Try.prog 135 #[.slice (some ⟨g, 0, none⟩) code.length c, .int .i64 (a : Int), .int .i64 (m : Int), .int .i64 (b : Int), .func (.func 82) #[] #[]] w (RetMg g c base top a b code w) := by
  have hw1 : IntKind.i64.wrap ((m : Int) - (a : Int)) = (m : Int) - (a : Int) := by rw [IntKind.wrap_i64]; omega
  have hw2 : IntKind.i64.wrap ((b : Int) - (m : Int)) = (b : Int) - (m : Int) := by rw [IntKind.wrap_i64]; omega
  have hn1 : ((m : Int) - (a : Int) == 1) = false := by simp; omega
  have hn2 : ((b : Int) - (m : Int) == 1) = false := by simp; omega
  obtain ⟨mid, hmid⟩ : ∃ mid, mid = (a + b) / 2 := ⟨_, rfl⟩
  have hd1 : ((a : Int) + (b : Int)) / 2 = (mid : Int) := by omega
  have hma : a < mid := by omega
  have hmb2 : mid < b := by omega
  obtain ⟨n, hn⟩ : ∃ n, n = mid + m := ⟨_, rfl⟩
  have hwn : IntKind.i64.wrap ((mid : Int) + (m : Int)) = (n : Int) := by rw [IntKind.wrap_i64]; omega
  obtain ⟨p, hp⟩ : ∃ p, n = p + 1 := ⟨n - 1, by omega⟩
  have hwp : IntKind.i64.wrap ((n : Int) - 1) = (p : Int) := by rw [IntKind.wrap_i64]; omega
  have hwb : IntKind.i64.wrap ((n : Int) - (b : Int)) = ((n - b : Nat) : Int) ∨ ¬ mid < m := by
    by_cases h : mid < m
    · exact .inl (by rw [IntKind.wrap_i64]; omega)
    · exact .inr h
  have HWB := hide hwb
  have HRL := hide hrl
  have HS := hide (And.intro hs1 hs2)
  have HIH := hide ih
  have HMN := hide (And.intro hmid (And.intro hn hp))
  have hg0 := World.grownBy.refl w (some g)
  clear hrl hs1 hs2 ih hmid hn hp hwb
  go_enter Try.func135, Try.ntmps135
  go_upto_if 140 with fail
  go_cut [20, 21] from 138 to 140 (fun s20 s21 wx => ∃ st0 r0 : Nat, s20 = .int .i64 (st0 : Int) ∧ s21 = .int .i64 (r0 : Int) ∧ Hid ((mid < m ∧ st0 = n - b ∧ r0 = mid) ∨ (m ≤ mid ∧ st0 = a ∧ r0 = m)) ∧ OwnC wx base top (some ⟨g, 0, none⟩) c code ∧ w.grownBy wx (some g))
  case first =>
    by_cases hgt : mid < m
    · have hgtI : (m : Int) > (mid : Int) := by omega
      obtain ⟨st0, hst0⟩ : ∃ st0, st0 = n - b := ⟨_, rfl⟩
      have hwb : IntKind.i64.wrap ((n : Int) - (b : Int)) = (st0 : Int) := by
        rcases HWB.out with h | h
        · rw [h, hst0]
        · exact absurd hgt h
      have HC := hide hst0
      have HG := hide hgt
      clear hst0
      go_wp2_with fail
      go_meet
      exact ⟨st0, mid, rfl, rfl, hide (.inl ⟨HG.out, HC.out, rfl⟩), h, hg0⟩
    · have hgtI : ¬ (m : Int) > (mid : Int) := by omega
      have HC : Hid (m ≤ mid) := hide (by omega)
      go_wp2_with fail
      go_meet
      exact ⟨a, m, rfl, rfl, hide (.inr ⟨HC.out, rfl, rfl⟩), h, hg0⟩
  case rest =>
    obtain ⟨st0, r0, rfl, rfl, H0, own0, hgr0⟩ := hcut
    clear h hg0 hw1 hw2 hn1 hn2 hd1 hwn
    go_wp2_with fail
    go_loopw [20, 21] (fun s20 s21 wr => ∃ st r : Nat, s20 = .int .i64 (st : Int) ∧ s21 = .int .i64 (r : Int) ∧ st ≤ r ∧ Hid (Cut code n st0 r0 st r) ∧ OwnC wr base top (some ⟨g, 0, none⟩) c code ∧ w.grownBy wr (some g)) (fun s20 s21 _ => (intOf s21).toNat - (intOf s20).toNat)
    case atStart =>
      have h1 := H0.out
      have h2 := HMN.out
      have hle : st0 ≤ r0 := by omega
      exact ⟨st0, r0, rfl, rfl, hle, hide (Cut.start hle), own0, hgr0⟩
    case round =>
      clear own0 hgr0 hwp
      obtain ⟨st, r, rfl, rfl, hsr, hC, own, hg⟩ := hrel
      by_cases hlt : st < r
      · have hltI : (st : Int) < (r : Int) := by omega
        obtain ⟨h, hh⟩ : ∃ h, h = (st + r) / 2 := ⟨_, rfl⟩
        have hih : st ≤ h := by omega
        have hhr : h < r := by omega
        have hdiv : ((st : Int) + (r : Int)) / 2 = (h : Int) := by omega
        have hb1 : st0 ≤ st := hC.out.b1
        have hb3 : r ≤ r0 := hC.out.b3
        obtain ⟨q, hq⟩ : ∃ q, q = p - h := ⟨_, rfl⟩
        have hfa : r0 ≤ n ∧ q < b ∧ m ≤ q ∧ h < m ∧ q = n - 1 - h ∧ h ≤ p := by
          have h1 := H0.out
          have h2 := HMN.out
          omega
        obtain ⟨f1, f2, f3, f4, f5, f6⟩ := hfa
        have hwq : IntKind.i64.wrap ((p : Int) - (h : Int)) = (q : Int) := by rw [IntKind.wrap_i64]; omega
        have hwh : IntKind.i64.wrap ((h : Int) + 1) = ((h + 1 : Nat) : Int) := by rw [IntKind.wrap_i64]; omega
        obtain ⟨h1, hh1⟩ : ∃ h1, h1 = h + 1 := ⟨_, rfl⟩
        rw [← hh1] at hwh
        have HH1 := hide hh1
        have hlI : (q : Int) < (code.length : Int) := by omega
        have haI : (h : Int) < (code.length : Int) := by omega
        obtain ⟨B1, d1, r1, B2, d2, r2, _, _, hr1, hr2, hc1, hc2, _, _, hrd1, hrd2, _, _⟩ := own.swap (i := q) (j := h) (by omega) (by omega) (by omega)
        have hm1 := HRL.out r1 (List.mem_of_getElem? hr1)
        have hm2 := HRL.out r2 (List.mem_of_getElem? hr2)
        have hCMP := fun W (e1 : RI W B1 r1) (e2 : RI W B2 r2) => sortCmp_any B1 B2 d1 d2 r1 r2 W e1 e2 hm1 hm2
        obtain ⟨qc, hqc⟩ : ∃ qc, qc = decide (cmpR r1 r2 < 0) := ⟨_, rfl⟩
        have HS2 : Hid ((qc = true → Cut code n st0 r0 st h) ∧ (qc = false → Cut code n st0 r0 h1 r)) := hide (by
          rw [hqc, hh1]
          exact ⟨fun e => hC.out.down hih hhr f1 (by rw [← f5]; exact hr1) hr2 (of_decide_eq_true e), fun e => hC.out.up hih hhr f1 (by rw [← f5]; exact hr1) hr2 (of_decide_eq_false e)⟩)
        have hdl := hqc.symm
        clear hh hh1 hr1 hr2 hC f5 hq hqc
        go_wp2_with fail
        go_quiet ((first | (go_at_call 82; exact quiet1 (hCMP _ hrd1 hrd2)) | fail))
        clear hdl hCMP
        cases qc
        · have HS3 := hide (HS2.out.2 rfl)
          go_wp2_with fail
          go_roundw
          case rel => exact ⟨h1, r, rfl, rfl, by rw [HH1.out]; omega, HS3, own, grown_as hg rfl rfl rfl rfl⟩
          case measure => have := HH1.out; simp [intOf]; omega
        · have HS3 := hide (HS2.out.1 rfl)
          go_wp2_with fail
          go_roundw
          case rel => exact ⟨st, h, rfl, rfl, by omega, HS3, own, grown_as hg rfl rfl rfl rfl⟩
          case measure => simp [intOf]; omega
      · have hltI : ¬ (st : Int) < (r : Int) := by omega
        obtain rfl : st = r := by omega
        obtain ⟨en, hen⟩ : ∃ en, en = n - st := ⟨_, rfl⟩
        have hcd : a ≤ st ∧ st ≤ m ∧ m ≤ en ∧ en ≤ b ∧ st + en = mid + m ∧ CutAt code a m b st en := by
          have h1 := H0.out
          have h2 := HMN.out
          have h3 := hC.out
          rw [h2.2.1] at h3
          obtain ⟨d1, d2, d3, d4, d5⟩ := h3.done (a := a) (b := b) (by omega) (by omega) h2.1 (by omega)
          rw [hen, h2.2.1]
          exact ⟨d1, d2, d3, d4, by omega, d5⟩
        obtain ⟨c1, c2, c3, c4, c5, c6⟩ := hcd
        have hwe : IntKind.i64.wrap ((n : Int) - (st : Int)) = (en : Int) := by
          have h2 := HMN.out
          rw [IntKind.wrap_i64]
          omega
        have HCU := hide (fun (t : List (List Int)) (hr : RotE code t st m en) => cut_rot HS.out.1 HS.out.2 hb c1 c2 c3 c4 c5 c6 hr)
        have HEN := hide (And.intro hen c5)
        clear hen c5 c6 hC
        go_upto_region 39 with fail
        go_cut [185] from 219 to 0 (fun s185 wx => ∃ q : Bool, s185 = .bool q ∧ Hid (q = decide (st < m ∧ m < en)) ∧ OwnC wx base top (some ⟨g, 0, none⟩) c code ∧ w.grownBy wx (some g))
        case first =>
          by_cases e1 : st < m
          · have i1 : (st : Int) < (m : Int) := by omega
            by_cases e2 : m < en
            · have i2 : (m : Int) < (en : Int) := by omega
              have hq : Hid (true = decide (st < m ∧ m < en)) := hide (decide_eq_true ⟨e1, e2⟩).symm
              go_wp2_with fail
              go_meet
              exact ⟨_, rfl, hq, own, hg⟩
            · have i2 : ¬ (m : Int) < (en : Int) := by omega
              have hq : Hid (false = decide (st < m ∧ m < en)) := hide (decide_eq_false (fun h => e2 h.2)).symm
              go_wp2_with fail
              go_meet
              exact ⟨_, rfl, hq, own, hg⟩
          · have i1 : ¬ (st : Int) < (m : Int) := by omega
            have hq : Hid (false = decide (st < m ∧ m < en)) := hide (decide_eq_false (fun h => e1 h.1)).symm
            go_wp2_with fail
            go_meet
            exact ⟨_, rfl, hq, own, hg⟩
        case rest =>
          clear own hg
          obtain ⟨q, rfl, hq, own1, hg1⟩ := hcut
          go_upto_if 185 with fail
          go_cut [] from 219 to 0 (fun wx => ∃ t, OwnC wx base top (some ⟨g, 0, none⟩) c t ∧ Hid (RotE code t st m en) ∧ w.grownBy wx (some g))
          case first =>
            by_cases e12 : st < m ∧ m < en
            · obtain rfl : q = true := by rw [hq.out]; exact decide_eq_true e12
              have HRO := hide (rotate_any g c base top st m en code _ own1 e12.1 e12.2 (by omega) hl)
              clear e12
              go_wp2_with fail
              refine HRO.out.mono ?_
              rintro e w5 ⟨rfl, t, own5, hr5, hg5⟩
              have HR5 := hide hr5
              clear hr5
              go_wp2_with fail
              go_meet
              exact ⟨t, own5, HR5, grown_trans hg1 hg5⟩
            · obtain rfl : q = false := by rw [hq.out]; exact decide_eq_false e12
              have HR5 : Hid (RotE code code st m en) := hide (rot_none (by omega))
              clear e12
              go_wp2_with fail
              go_meet
              exact ⟨code, own1, HR5, hg1⟩
          case rest =>
            clear own1 hg1
            obtain ⟨t, own2, hrot, hg2⟩ := hcut
            have hcr := hide (HCU.out t hrot.out)
            have htl := hrot.out.re.1
            have HTP := hide hrot.out.re.2.2
            clear hrot
            go_upto_region 41 with fail
            go_cut [199] from 219 to 0 (fun s199 wx => ∃ q : Bool, s199 = .bool q ∧ Hid (q = decide (a < st ∧ st < mid)) ∧ OwnC wx base top (some ⟨g, 0, none⟩) c t ∧ w.grownBy wx (some g))
            case first =>
              by_cases e1 : a < st
              · have i1 : (a : Int) < (st : Int) := by omega
                by_cases e2 : st < mid
                · have i2 : (st : Int) < (mid : Int) := by omega
                  have hq : Hid (true = decide (a < st ∧ st < mid)) := hide (decide_eq_true ⟨e1, e2⟩).symm
                  go_wp2_with fail
                  go_meet
                  exact ⟨_, rfl, hq, own2, hg2⟩
                · have i2 : ¬ (st : Int) < (mid : Int) := by omega
                  have hq : Hid (false = decide (a < st ∧ st < mid)) := hide (decide_eq_false (fun h => e2 h.2)).symm
                  go_wp2_with fail
                  go_meet
                  exact ⟨_, rfl, hq, own2, hg2⟩
              · have i1 : ¬ (a : Int) < (st : Int) := by omega
                have hq : Hid (false = decide (a < st ∧ st < mid)) := hide (decide_eq_false (fun h => e1 h.1)).symm
                go_wp2_with fail
                go_meet
                exact ⟨_, rfl, hq, own2, hg2⟩
            case rest =>
              clear own2 hg2
              obtain ⟨q2, rfl, hq, own3, hg3⟩ := hcut
              go_upto_if 199 with fail
              go_cut [] from 219 to 0 (fun wx => ∃ u, OwnC wx base top (some ⟨g, 0, none⟩) c u ∧ Hid (Re a mid t u ∧ So a mid u) ∧ w.grownBy wx (some g))
              case first =>
                by_cases e12 : a < st ∧ st < mid
                · obtain rfl : q2 = true := by rw [hq.out]; exact decide_eq_true e12
                  have HIA := hide (HIH.out a st mid t _ (by omega) own3 e12.1 e12.2 (by omega) (by omega) (fun r hr => HRL.out r (HTP.out.mem_iff.1 hr)) hcr.out.2.1 hcr.out.2.2.1)
                  rw [htl] at HIA
                  clear e12
                  go_wp2_with fail
                  refine HIA.out.mono ?_
                  rintro e w5 ⟨rfl, u, own5, hr5, hs5, hg5⟩
                  have HR5 : Hid (Re a mid t u ∧ So a mid u) := hide ⟨hr5, hs5⟩
                  clear hr5 hs5
                  go_wp2_with fail
                  go_meet
                  exact ⟨u, own5, HR5, grown_trans hg3 hg5⟩
                · obtain rfl : q2 = false := by rw [hq.out]; exact decide_eq_false e12
                  have HR5 : Hid (Re a mid t t ∧ So a mid t) := hide ⟨Re.refl _ _ _, by
                    by_cases h1 : a < st
                    · exact hcr.out.2.1.sub (Nat.le_refl _) (by omega)
                    · have := hcr.out.2.2.1
                      rw [show st = a by omega] at this
                      exact this⟩
                  clear e12
                  go_wp2_with fail
                  go_meet
                  exact ⟨t, own3, HR5, hg3⟩
              case rest =>
                clear own3 hg3
                obtain ⟨u, own4, hur, hg4⟩ := hcut
                have hul := hur.out.1.1
                have HUP := hide (hur.out.1.2.2.trans HTP.out)
                have HU : Hid (Re a b code u ∧ So a mid u ∧ So mid en u ∧ So en b u ∧ Lq a mid b u) := hide (by
                  obtain ⟨k1, k2, k3, k4, k5, k6⟩ := hcr.out
                  obtain ⟨j1, j2⟩ := hur.out
                  refine ⟨k1.trans (j1.mono (Nat.le_refl _) (by omega)), j2, k4.keep (fun k h1 h2 => j1.2.1 k (.inr h1)), k5.keep (fun k h1 h2 => j1.2.1 k (.inr (by have := HEN.out.2; omega))), k6.re1 j1 (by omega)⟩)
                clear hur hcr
                have hfin : ∀ v, Re mid b u v → So mid b v → Re a b code v ∧ So a b v := fun v h1 h2 => by
                  obtain ⟨k1, k2, k3, k4, k5⟩ := HU.out
                  exact ⟨k1.trans (h1.mono (by omega) (Nat.le_refl _)), So.join (k2.keep (fun k h3 h4 => h1.2.1 k (.inl h4))) h2 (k5.re2 h1 (by omega))⟩
                have HFIN := hide hfin
                clear hfin
                by_cases e1 : mid < en
                · have i1 : (mid : Int) < (en : Int) := by omega
                  by_cases e2 : en < b
                  · have i2 : (en : Int) < (b : Int) := by omega
                    have HIA := hide (HIH.out mid en b u _ (by omega) own4 e1 e2 (by omega) (by omega) (fun r hr => HRL.out r (HUP.out.mem_iff.1 hr)) HU.out.2.2.1 HU.out.2.2.2.1)
                    rw [hul, htl] at HIA
                    go_wp2_with fail
                    refine HIA.out.mono ?_
                    rintro e w5 ⟨rfl, v, own5, hr5, hs5, hg5⟩
                    have HR5 := hide (HFIN.out v hr5 hs5)
                    clear hr5 hs5
                    go_wp2_with fail
                    refine bodyPost_end (results_none rfl _ _ _) rfl ?_
                    exact ⟨rfl, v, own5, HR5.out.1, HR5.out.2, grown_trans hg4 hg5⟩
                  · have i2 : ¬ (en : Int) < (b : Int) := by omega
                    have HR5 := hide (HFIN.out u (Re.refl _ _ _) (HU.out.2.2.1.sub (Nat.le_refl _) (by omega)))
                    go_wp2_with fail
                    refine bodyPost_end (results_none rfl _ _ _) rfl ?_
                    exact ⟨rfl, u, own4, HR5.out.1, HR5.out.2, hg4⟩
                · have i1 : ¬ (mid : Int) < (en : Int) := by omega
                  have HR5 := hide (HFIN.out u (Re.refl _ _ _) (HU.out.2.2.2.1.sub (by omega) (Nat.le_refl _)))
                  go_wp2_with fail
                  refine bodyPost_end (results_none rfl _ _ _) rfl ?_
                  exact ⟨rfl, u, own4, HR5.out.1, HR5.out.2, hg4⟩
theorem symMerge_any (g c base top : Nat) : ∀ (n a m b : Nat) (code : List (List Int)) (w : World), b - a ≤ n → OwnC w base top (some ⟨g, 0, none⟩) c code → a < m → m < b → b ≤ code.length → code.length ≤ 64 → (∀ r ∈ code, r.length ≤ 1048576) → So a m code → So m b code →
    Calls Try.prog 135 #[.slice (some ⟨g, 0, none⟩) code.length c, .int .i64 (a : Int), .int .i64 (m : Int), .int .i64 (b : Int), .func (.func 82) #[] #[]] w (RetMg g c base top a b code w)
  | 0, a, m, b, code, w, hn, _, ham, hmb, _, _, _, _, _ => by omega
  | n + 1, a, m, b, code, w, hn, h, ham, hmb, hb, hl, hrl, hs1, hs2 => by
    by_cases e1 : m = a + 1
    · subst e1
      have := symA_any g c base top a b code w h hb (by omega) hl hrl hs2
      exact this
    · by_cases e2 : b = m + 1
      · subst e2
        have := symB_any g c base top a m code w h hb (by omega) hl hrl hs1
        exact this
      · exact symC_any g c base top a m b code w h hb (by omega) (by omega) hl hrl hs1 hs2 (fun a' m' b' cd W h1 h2 h3 h4 h5 h6 h7 h8 h9 => symMerge_any g c base top n a' m' b' cd W (by omega) h2 h3 h4 h5 h6 h7 h8 h9)
end Go.Proofs.Ytnjojnnapdhijaa
