/-
  Contract: the library's stable sort at rows of a code; SortCurves of the program. Conditions: at most 40 rows.
-/
import Derived.Test.YtnjojnnapdhijaaStab3
import Derived.Test.YtnjojnnapdhijaaCodeOk
import Derived.Test.YtnjojnnapdhijaaCopyM
import Derived.Test.YtnjojnnapdhijaaMoveMathM
namespace Go.Proofs.Ytnjojnnapdhijaa
open Go.RowKit
set_option linter.unusedVariables false

/-- sorted in blocks of twenty, up to a -/
def Blk (a n : Nat) (s : List Rw) : Prop := (20 ≤ a → So 0 20 s) ∧ (40 ≤ a → So 20 40 s)
set_option maxRecDepth 20000 in
set_option maxHeartbeats 8000000 in
theorem stable_any (g c base top : Nat) (code : List (List Int)) (w : World) (h : OwnC w base top (some ⟨g, 0, none⟩) c code) (hl : code.length ≤ 40) (hrl : ∀ r ∈ code, r.length ≤ 1048576) :
    Calls Try.prog 123 #[.slice (some ⟨g, 0, none⟩) code.length c, .int .i64 (code.length : Int), .func (.func 82) #[] #[]] w fun e w' => e = .returned (.tuple #[]) ∧ OwnC w' base top (some ⟨g, 0, none⟩) c (sortC code) ∧ w.grownBy w' (some g) := by
  have HRL := hide hrl
  have hg0 := World.grownBy.refl w (some g)
  obtain ⟨N, hN⟩ : ∃ N, N = code.length := ⟨_, rfl⟩
  have HN := hide hN
  have HFIN : Hid (∀ t, Re 0 N code t → So 0 N t → t = sortC code) := hide (fun t h1 h2 => by rw [hN] at h1 h2; exact so_sortC h1 h2)
  have HSB : Hid (∀ t, Re 0 N code t → t.length = N ∧ ∀ r ∈ t, r.length ≤ 1048576) := hide (fun t h1 => ⟨by rw [h1.1, hN], fun r hr => hrl r (h1.2.2.mem_iff.1 hr)⟩)
  rw [← hN] at hl ⊢
  clear hrl hN
  go_enter Try.func123, Try.ntmps123
  go_wp2_with fail
  go_loopw [7, 8] (fun s7 s8 wr => ∃ (a b : Nat) (t : List (List Int)), s7 = .int .i64 (a : Int) ∧ s8 = .int .i64 (b : Int) ∧ a ≤ N ∧ a ≤ 40 ∧ Hid (b = a + 20 ∧ (a = 0 ∨ a = 20 ∨ a = 40)) ∧ Hid (Re 0 N code t ∧ Blk a N t) ∧ OwnC wr base top (some ⟨g, 0, none⟩) c t ∧ w.grownBy wr (some g)) (fun s7 _ _ => 60 - (intOf s7).toNat)
  case atStart => exact ⟨0, 20, code, rfl, rfl, Nat.zero_le _, by omega, hide ⟨rfl, .inl rfl⟩, hide ⟨Re.refl _ _ _, fun h => by omega, fun h => by omega⟩, h, hg0⟩
  case round =>
    clear h hg0
    obtain ⟨a, b, t, rfl, rfl, ha, ha4, hab, hR, own, hg⟩ := hrel
    obtain ⟨htl, htr⟩ := HSB.out t hR.out.1
    by_cases hlt : b ≤ N
    · have hltI : (b : Int) ≤ (N : Int) := by omega
      obtain ⟨b2, hb2⟩ : ∃ b2, b2 = b + 20 := ⟨_, rfl⟩
      have hwb : IntKind.i64.wrap ((b : Int) + 20) = (b2 : Int) := by rw [IntKind.wrap_i64]; omega
      have HB2 := hide hb2
      have HIS := hide (insSort_any g c base top a b t _ own (by have := hab.out; omega) (by omega) (by omega) htr)
      rw [htl] at HIS
      clear hb2 htr
      go_wp2_with fail
      refine HIS.out.mono ?_
      rintro e w2 ⟨rfl, u, own2, hre, hso, hg2⟩
      have HR2 : Hid (Re 0 N code u ∧ Blk b N u) := hide (by
        have h1 := hab.out
        obtain ⟨k1, k2, k3⟩ := hR.out
        refine ⟨k1.trans (hre.mono (Nat.zero_le _) hlt), fun h => ?_, fun h => ?_⟩
        · by_cases h0 : a = 0
          · rw [h0, show b = 20 by omega] at hso; exact hso
          · exact (k2 (by omega)).keep (fun k g1 g2 => hre.2.1 k (.inl (by omega)))
        · by_cases h0 : a = 20
          · rw [h0, show b = 40 by omega] at hso; exact hso
          · omega)
      clear hre hso
      go_wp2_with fail
      go_roundw
      case rel => exact ⟨b, b2, u, rfl, rfl, hlt, by have := hab.out; omega, hide ⟨HB2.out, by have := hab.out; omega⟩, HR2, own2, grown_trans hg hg2⟩
      case measure => have := hab.out; simp [intOf]; omega
    · have hltI : ¬ (b : Int) ≤ (N : Int) := by omega
      have HIS := hide (insSort_any g c base top a N t _ own ha (by omega) (by omega) htr)
      rw [htl] at HIS
      clear htr
      go_wp2_with fail
      refine HIS.out.mono ?_
      rintro e w2 ⟨rfl, u, own2, hre, hso, hg2⟩
      have HR2 : Hid (Re 0 N code u ∧ (N ≤ 20 → So 0 N u) ∧ (20 < N → So 0 20 u ∧ So 20 N u)) := hide (by
        have h1 := hab.out
        obtain ⟨k1, k2, k3⟩ := hR.out
        refine ⟨k1.trans (hre.mono (Nat.zero_le _) (Nat.le_refl _)), fun h => ?_, fun h => ?_⟩
        · by_cases h0 : a = 0
          · rw [h0] at hso; exact hso
          · have := (k2 (by omega)).keep (t := u) (fun k g1 g2 => hre.2.1 k (.inl (by omega)))
            rw [show N = 20 by omega]
            exact this
        · have h4 := (k2 (by omega)).keep (t := u) (fun k g1 g2 => hre.2.1 k (.inl (by omega)))
          refine ⟨h4, ?_⟩
          by_cases h0 : a = 20
          · rw [h0] at hso; exact hso
          · have := (k3 (by omega)).keep (t := u) (fun k g1 g2 => hre.2.1 k (.inl (by omega)))
            rw [show N = 40 by omega]
            exact this)
      have hG := grown_trans hg hg2
      clear hre hso hg hg2 own hR HIS hlt hltI hab ha ha4
      go_wp2_with fail
      go_loopw [6] (fun s6 wr => ∃ (bs : Nat) (t : List (List Int)), s6 = .int .i64 (bs : Int) ∧ (bs = 20 ∨ bs = 40) ∧ Hid (Re 0 N code t ∧ (bs = 20 → (N ≤ 20 → So 0 N t) ∧ (20 < N → So 0 20 t ∧ So 20 N t)) ∧ (bs = 40 → So 0 N t)) ∧ OwnC wr base top (some ⟨g, 0, none⟩) c t ∧ w.grownBy wr (some g)) (fun s6 _ => 60 - (intOf s6).toNat)
      case atStart => exact ⟨20, u, rfl, .inl rfl, hide ⟨HR2.out.1, fun _ => HR2.out.2, fun h => by omega⟩, own2, hG⟩
      case round =>
        clear own2 hG HR2
        obtain ⟨bs, t2, rfl, hbs, hR2, own2, hG⟩ := hrel
        obtain ⟨htl2, htr2⟩ := HSB.out t2 hR2.out.1
        by_cases hlt : bs < N
        · have hltI : (bs : Int) < (N : Int) := by omega
          have hb20 : bs = 20 := by omega
          have HR3 : Hid (Re 0 N code t2 ∧ So 0 20 t2 ∧ So 20 N t2) := hide ⟨hR2.out.1, (hR2.out.2.1 hb20).2 (by omega)⟩
          have hw2 : IntKind.i64.wrap (2 * (bs : Int)) = 40 := by rw [IntKind.wrap_i64]; omega
          obtain ⟨bs2, hbs2⟩ : ∃ bs2, bs2 = 40 := ⟨_, rfl⟩
          have hw3 : IntKind.i64.wrap ((bs : Int) * 2) = (bs2 : Int) := by rw [IntKind.wrap_i64]; omega
          have HB20 := hide (And.intro hb20 hbs2)
          obtain ⟨wo, rfl⟩ : ∃ wo : World, wo = wr := ⟨_, rfl⟩
          clear hR2 hbs hb20 hbs2
          go_wp2_with fail
          go_loopw [7, 8] (fun s7 s8 wr => ∃ (a b : Nat) (t : List (List Int)), s7 = .int .i64 (a : Int) ∧ s8 = .int .i64 (b : Int) ∧ Hid ((a = 0 ∧ b = 40 ∧ Re 0 N code t ∧ So 0 20 t ∧ So 20 N t) ∨ (a = 40 ∧ b = 80 ∧ N = 40 ∧ Re 0 N code t ∧ So 0 N t)) ∧ OwnC wr base top (some ⟨g, 0, none⟩) c t ∧ w.grownBy wr (some g)) (fun s7 _ _ => 60 - (intOf s7).toNat)
          case atStart => exact ⟨0, 40, t2, rfl, rfl, hide (.inl ⟨rfl, rfl, HR3.out⟩), own2, hG⟩
          case round =>
            clear own2 hG HR3
            obtain ⟨a3, b3, t, rfl, rfl, hR, own, hg⟩ := hrel
            have hre : Re 0 N code t := hR.out.elim (fun h => h.2.2.1) (fun h => h.2.2.2.1)
            obtain ⟨htl, htr⟩ := HSB.out t hre
            obtain ⟨m3, hm3⟩ : ∃ m3, m3 = a3 + 20 := ⟨_, rfl⟩
            have hwm : IntKind.i64.wrap ((a3 : Int) + (bs : Int)) = (m3 : Int) := by
              have h1 := hR.out
              have h2 := HB20.out
              rw [IntKind.wrap_i64]
              omega
            have HM3 := hide hm3
            clear hm3
            by_cases hlt2 : b3 ≤ N
            · have hl2I : (b3 : Int) ≤ (N : Int) := by omega
              have HAB : Hid (a3 = 0 ∧ b3 = 40 ∧ N = 40) := hide (by have := hR.out; omega)
              have hso : So a3 m3 t ∧ So m3 b3 t := by
                obtain ⟨q1, q2, q3⟩ := HAB.out
                have q4 := HM3.out
                rcases hR.out with h | h
                · rw [q4, q1, q2, ← q3]; exact h.2.2.2
                · omega
              have HM := hide (symMerge_any g c base top 40 a3 m3 b3 t _ (by have := HAB.out; omega) own (by have := HM3.out; omega) (by have := HAB.out; have := HM3.out; omega) (by omega) (by omega) htr hso.1 hso.2)
              rw [htl] at HM
              obtain ⟨b4, hb4⟩ : ∃ b4, b4 = 80 := ⟨_, rfl⟩
              have hwb : IntKind.i64.wrap ((b3 : Int) + 40) = (b4 : Int) := by have := HAB.out; rw [IntKind.wrap_i64]; omega
              have HB4 := hide hb4
              clear hso htr hb4
              go_wp2_with fail
              refine HM.out.mono ?_
              rintro e w3 ⟨rfl, v, own3, hre3, hso3, hg3⟩
              have HR4 : Hid (Re 0 N code v ∧ So 0 N v) := hide (by
                obtain ⟨q1, q2, q3⟩ := HAB.out
                rw [q1, q2, ← q3] at hre3 hso3
                exact ⟨hre.trans hre3, hso3⟩)
              clear hre3 hso3
              go_wp2_with fail
              go_roundw
              case rel => exact ⟨b3, b4, v, rfl, rfl, hide (.inr ⟨HAB.out.2.1, HB4.out, HAB.out.2.2, HR4.out⟩), own3, grown_trans hg hg3⟩
              case measure => have := HAB.out; simp [intOf]; omega
            · have hl2I : ¬ (b3 : Int) ≤ (N : Int) := by omega
              by_cases hm : m3 < N
              · have hmI : (m3 : Int) < (N : Int) := by omega
                have hso : a3 < m3 ∧ Re 0 N code t ∧ So a3 m3 t ∧ So m3 N t ∧ a3 = 0 := by
                  have q4 := HM3.out
                  rcases hR.out with h | h
                  · refine ⟨by omega, hre, ?_, ?_, h.1⟩
                    · rw [q4, h.1]; exact h.2.2.2.1
                    · rw [q4, h.1]; exact h.2.2.2.2
                  · omega
                have HM := hide (symMerge_any g c base top 40 a3 m3 N t _ (by omega) own hso.1 hm (by omega) (by omega) htr hso.2.2.1 hso.2.2.2.1)
                rw [htl] at HM
                have HA0 := hide hso.2.2.2.2
                clear hso htr
                go_wp2_with fail
                refine HM.out.mono ?_
                rintro e w3 ⟨rfl, v, own3, hre3, hso3, hg3⟩
                have HR4 : Hid (Re 0 N code v ∧ So 0 N v) := hide (by
                  rw [HA0.out] at hre3 hso3
                  exact ⟨hre.trans hre3, hso3⟩)
                clear hre3 hso3
                go_wp2_with fail
                go_roundw
                case rel => exact ⟨bs2, v, rfl, .inr HB20.out.2, hide ⟨HR4.out.1, fun h => by have := HB20.out; omega, fun _ => HR4.out.2⟩, own3, grown_trans hg hg3⟩
                case measure => have := HB20.out; simp [intOf]; omega
              · have hmI : ¬ (m3 : Int) < (N : Int) := by omega
                have HR4 : Hid (So 0 N t) := hide (by
                  have q4 := HM3.out
                  rcases hR.out with h | h
                  · have h2 := HB20.out
                    omega
                  · exact h.2.2.2.2)
                clear htr
                go_wp2_with fail
                go_roundw
                case rel => exact ⟨bs2, t, rfl, .inr HB20.out.2, hide ⟨hre, fun h => by have := HB20.out; omega, fun _ => HR4.out⟩, own, hg⟩
                case measure => have := HB20.out; simp [intOf]; omega
        · have hltI : ¬ (bs : Int) < (N : Int) := by omega
          have HE : Hid (t2 = sortC code) := hide (HFIN.out t2 hR2.out.1 (by
            rcases hbs with h | h
            · exact (hR2.out.2.1 h).1 (by omega)
            · exact hR2.out.2.2 h))
          clear hR2 htr2
          go_wp2_with fail
          refine bodyPost_end (results_none rfl _ _ _) rfl ?_
          exact ⟨rfl, by rw [← HE.out]; exact own2, hG⟩
theorem sortStable_any (g c base top : Nat) (code : List (List Int)) (w : World) (h : OwnC w base top (some ⟨g, 0, none⟩) c code) (hl : code.length ≤ 40) (hrl : ∀ r ∈ code, r.length ≤ 1048576) :
    Calls Try.prog 81 #[.slice (some ⟨g, 0, none⟩) code.length c, .func (.func 82) #[] #[]] w fun e w' => e = .returned (.tuple #[]) ∧ OwnC w' base top (some ⟨g, 0, none⟩) c (sortC code) ∧ w.grownBy w' (some g) := by
  have HS := hide (stable_any g c base top code w h hl hrl)
  clear h hrl
  go_enter Try.func81, Try.ntmps81
  go_wp2_with fail
  refine HS.out.mono ?_
  rintro e w2 ⟨rfl, own2, hg2⟩
  go_wp2_with fail
  refine bodyPost_end (results_none rfl _ _ _) rfl ?_
  exact ⟨rfl, own2, hg2⟩
/- an empty list -/
theorem insSort_nil (A : Option Addr) (c : Nat) (w : World) : Calls Try.prog 134 #[.slice A 0 c, .int .i64 0, .int .i64 0, .func (.func 82) #[] #[]] w fun e w' => e = .returned (.tuple #[]) ∧ w = w' := by
  go_enter Try.func134, Try.ntmps134
  go_wp2_with fail
  go_loopw [8] (fun s wr => s = .int .i64 1 ∧ wr = w) (fun s _ => 0)
  case atStart => exact ⟨rfl, rfl⟩
  case round =>
    obtain ⟨rfl, rfl⟩ := hrel
    go_wp2_with fail
    refine bodyPost_end (results_none rfl _ _ _) rfl ?_
    exact ⟨rfl, rfl⟩
theorem stable_nil (A : Option Addr) (c : Nat) (w : World) : Calls Try.prog 123 #[.slice A 0 c, .int .i64 0, .func (.func 82) #[] #[]] w fun e w' => e = .returned (.tuple #[]) ∧ w = w' := by
  go_enter Try.func123, Try.ntmps123
  go_wp2_with fail
  go_loopw [7, 8] (fun s7 s8 wr => s7 = .int .i64 0 ∧ s8 = .int .i64 20 ∧ wr = w) (fun _ _ _ => 0)
  case atStart => exact ⟨rfl, rfl, rfl⟩
  case round =>
    obtain ⟨rfl, rfl, rfl⟩ := hrel
    go_wp2_with fail
    refine (insSort_nil A c _).mono ?_
    rintro e w2 ⟨rfl, rfl⟩
    obtain ⟨w9, rfl⟩ : ∃ w9 : World, w9 = wr := ⟨_, rfl⟩
    go_wp2_with fail
    go_loopw [6] (fun s6 wr => s6 = .int .i64 20 ∧ wr = w9) (fun _ _ => 0)
    case atStart => exact ⟨rfl, rfl⟩
    case round =>
      obtain ⟨rfl, rfl⟩ := hrel
      go_wp2_with fail
      refine bodyPost_end (results_none rfl _ _ _) rfl ?_
      exact ⟨rfl, rfl⟩
theorem sortStable_nil (A : Option Addr) (c : Nat) (w : World) : Calls Try.prog 81 #[.slice A 0 c, .func (.func 82) #[] #[]] w fun e w' => e = .returned (.tuple #[]) ∧ w = w' := by
  go_enter Try.func81, Try.ntmps81
  go_wp2_with fail
  refine (stable_nil A c _).mono ?_
  rintro e w2 ⟨rfl, rfl⟩
  go_wp2_with fail
  refine bodyPost_end (results_none rfl _ _ _) rfl ?_
  exact ⟨rfl, rfl⟩
theorem sortC_len (code : List (List Int)) : (sortC code).length = code.length := (sortC_perm code).length_eq
/-- what SortCurves answers -/
def sortR (code : List (List Int)) : List (List Int) × Int := if validC code = true then (sortC code, 0) else ([], 1)
theorem sortR_ok {code : List (List Int)} (h : validC code = true) : sortR code = (sortC code, 0) := by unfold sortR; rw [if_pos h]
theorem sortR_no {code : List (List Int)} (h : validC code = false) : sortR code = ([], 1) := by unfold sortR; rw [if_neg (by rw [h]; simp)]
set_option maxHeartbeats 4000000 in
theorem implSortCurves_any (A : Option Addr) (c T : Nat) (code : List (List Int)) (w : World) (hc : RC w T A code) (hn : code.length + sumLen code ≤ 1048576) :
    Calls Try.prog 27 #[.slice A code.length c] w (RetCC w (sortR code).1 (sortR code).2) := by
  have HV := hide (validCode_any A c T code w hc hn)
  cases hv : validC code
  · rw [hv] at HV
    rw [sortR_no hv]
    clear hv
    go_enter Try.func27, Try.ntmps27
    go_wp2_with fail
    refine HV.out.mono ?_
    rintro e w1 ⟨rfl, hb1⟩
    go_wp2_with fail
    go_ret2
    exact ⟨none, 0, rfl, OwnC.nil _ _ _, hb1⟩
  · rw [hv] at HV
    rw [sortR_ok hv]
    have hl := (valid_sum hv).1
    have HL := hide (sortC_len code)
    have HRL : Hid (∀ r ∈ code, r.length ≤ 1048576) := hide fun r hr => by
      obtain ⟨k, hk⟩ := List.mem_iff_getElem?.1 hr
      have := sumLen_row hk
      omega
    clear hv
    go_enter Try.func27, Try.ntmps27
    go_wp2_with fail
    refine HV.out.mono ?_
    rintro e w1 ⟨rfl, hb1⟩
    go_wp2_with fail
    refine (cloneCode_any A c T code _ (hc.below hb1) hn).mono ?_
    rintro e w2 ⟨A2, c2, rfl, own2, hb2⟩
    have hB2 := hb1.trans (hb2.mono hb1.size)
    by_cases h0 : code = []
    · subst h0
      go_wp2_with fail
      refine (sortStable_nil A2 c2 _).mono ?_
      rintro e w3 ⟨rfl, rfl⟩
      go_wp2_with fail
      go_ret2
      exact ⟨A2, c2, by rw [HL.out]; rfl, by rw [show sortC [] = [] from List.eq_nil_of_length_eq_zero (sortC_len [])]; exact own2.mono hb1.size (Nat.le_refl _), hB2⟩
    · obtain ⟨g, _, _, _, rfl, hgb, _⟩ := own2.row (k := 0) (List.length_pos_iff.2 h0)
      have HS := hide (sortStable_any g c2 _ _ code _ own2 hl HRL.out)
      have hz1 := hb1.size
      have hz2 := hb2.size
      clear own2 h0
      go_wp2_with fail
      refine HS.out.mono ?_
      rintro e w3 ⟨rfl, own3, hg3⟩
      have HF := hide (And.intro (own3.mono hz1 hg3.size) (hB2.grown hg3 (by omega) (fun q hq => by injection hq with hq; omega)))
      clear own3 hg3 hB2
      go_wp2_with fail
      go_ret2
      exact ⟨_, c2, by rw [HL.out]; rfl, HF.out.1, HF.out.2⟩
end Go.Proofs.Ytnjojnnapdhijaa
