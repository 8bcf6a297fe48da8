/-
  Contract: the library's merge in place at rows of a code. Conditions: at most 64 rows of at most 1048576 numbers.
-/
import Derived.Test.YtnjojnnapdhijaaStab1
import Derived.Test.YtnjojnnapdhijaaStabMath
namespace Go.Proofs.Ytnjojnnapdhijaa
open Go.RowKit
set_option linter.unusedVariables false

/-- what merging hands back -/
def RetMg (g c base top a b : Nat) (code : List (List Int)) (w : World) (e : Ending) (w' : World) : Prop :=
  e = .returned (.tuple #[]) ∧ ∃ t, OwnC w' base top (some ⟨g, 0, none⟩) c t ∧ Re a b code t ∧ So a b t ∧ w.grownBy w' (some g)
set_option maxRecDepth 20000 in
set_option maxHeartbeats 8000000 in
theorem symA_any (g c base top a b : Nat) (code : List (List Int)) (w : World) (h : OwnC w base top (some ⟨g, 0, none⟩) c code) (hb : b ≤ code.length) (hab : a + 1 < b) (hl : code.length ≤ 64) (hrl : ∀ r ∈ code, r.length ≤ 1048576) (hs2 : So (a + 1) b code) :
    Calls Try.prog 135 #[.slice (some ⟨g, 0, none⟩) code.length c, .int .i64 (a : Int), .int .i64 ((a : Int) + 1), .int .i64 (b : Int), .func (.func 82) #[] #[]] w (RetMg g c base top a b code w) := by
  have hw1 : IntKind.i64.wrap ((a : Int) + 1 - (a : Int)) = 1 := by rw [IntKind.wrap_i64]; omega
  have HRL := hide hrl
  have HS2 := hide hs2
  clear hrl hs2
  go_enter Try.func135, Try.ntmps135
  go_wp2_with fail
  go_loopw [10, 11] (fun s10 s11 wr => ∃ i j : Nat, a + 1 ≤ i ∧ i ≤ j ∧ j ≤ b ∧ s10 = .int .i64 (i : Int) ∧ s11 = .int .i64 (j : Int) ∧ Hid (SrchA code a (a + 1) b i j) ∧ OwnC wr base top (some ⟨g, 0, none⟩) c code ∧ w.grownBy wr (some g)) (fun s10 s11 _ => (intOf s11).toNat - (intOf s10).toNat)
  case atStart => exact ⟨a + 1, b, Nat.le_refl _, by omega, Nat.le_refl _, by simp, rfl, hide SrchA.start, h, World.grownBy.refl _ _⟩
  case round =>
    clear h
    obtain ⟨i, j, hi, hij, hjb, rfl, rfl, hS, own, hg⟩ := hrel
    by_cases hlt : i < j
    · have hltI : (i : Int) < (j : Int) := by omega
      obtain ⟨h, hh⟩ : ∃ h, h = (i + j) / 2 := ⟨_, rfl⟩
      have hih : i ≤ h := by omega
      have hhj : h < j := by omega
      have hdiv : ((i : Int) + (j : Int)) / 2 = (h : Int) := by omega
      have hwh : IntKind.i64.wrap ((h : Int) + 1) = ((h + 1 : Nat) : Int) := by rw [IntKind.wrap_i64]; omega
      obtain ⟨h1, hh1⟩ : ∃ h1, h1 = h + 1 := ⟨_, rfl⟩
      rw [← hh1] at hwh
      have HH1 := hide hh1
      have hlI : (h : Int) < (code.length : Int) := by omega
      have haI : (a : Int) < (code.length : Int) := by omega
      obtain ⟨B1, d1, r1, B2, d2, r2, _, _, hr1, hr2, hc1, hc2, _, _, hrd1, hrd2, _, _⟩ := own.swap (i := h) (j := a) (by omega) (by omega) (by omega)
      have hm1 := HRL.out r1 (List.mem_of_getElem? hr1)
      have hm2 := HRL.out r2 (List.mem_of_getElem? hr2)
      have hCMP := fun W (e1 : RI W B1 r1) (e2 : RI W B2 r2) => sortCmp_any B1 B2 d1 d2 r1 r2 W e1 e2 hm1 hm2
      by_cases hneg : cmpR r1 r2 < 0
      · have HS : Hid (SrchA code a (a + 1) b (h + 1) j) := hide (hS.out.up HS2.out (by omega) (by omega) hr1 hr2 hneg)
        rw [← HH1.out] at HS
        have hdl : decide (cmpR r1 r2 < 0) = true := decide_eq_true hneg
        clear hh hh1 hr1 hr2 hS
        go_wp2_with fail
        go_quiet ((first | (go_at_call 82; exact quiet1 (hCMP _ hrd1 hrd2)) | fail))
        go_wp2_with fail
        go_roundw
        case rel => exact ⟨h1, j, by rw [HH1.out]; omega, by rw [HH1.out]; omega, hjb, rfl, rfl, HS, own, grown_as hg rfl rfl rfl rfl⟩
        case measure => have := HH1.out; simp [intOf]; omega
      · have HS : Hid (SrchA code a (a + 1) b i h) := hide (hS.out.down HS2.out (by omega) (by omega) hr1 hr2 hneg)
        have hdl : decide (cmpR r1 r2 < 0) = false := decide_eq_false hneg
        clear hh hh1 hr1 hr2 hS
        go_wp2_with fail
        go_quiet ((first | (go_at_call 82; exact quiet1 (hCMP _ hrd1 hrd2)) | fail))
        go_wp2_with fail
        go_roundw
        case rel => exact ⟨i, h, hi, by omega, by omega, rfl, rfl, HS, own, grown_as hg rfl rfl rfl rfl⟩
        case measure => simp [intOf]; omega
    · have hltI : ¬ (i : Int) < (j : Int) := by omega
      obtain rfl : i = j := by omega
      obtain ⟨q, hq⟩ : ∃ q, i = q + 1 := ⟨i - 1, by omega⟩
      have hwi : IntKind.i64.wrap ((i : Int) - 1) = (q : Int) := by rw [IntKind.wrap_i64]; omega
      have HQ := hide hq
      have haq : a ≤ q := by omega
      have hqb : q < b := by omega
      clear hq
      go_wp2_with fail
      go_loopw [13] (fun s13 wr => ∃ (k : Nat) (t : List (List Int)), a ≤ k ∧ k ≤ q ∧ s13 = .int .i64 (k : Int) ∧ Hid (Rise code t a b k) ∧ OwnC wr base top (some ⟨g, 0, none⟩) c t ∧ w.grownBy wr (some g)) (fun s13 _ => q - (intOf s13).toNat)
      case atStart => exact ⟨a, code, Nat.le_refl _, haq, rfl, hide Rise.start, own, hg⟩
      case round =>
        clear own hg
        obtain ⟨k, t, hk, hkq, rfl, hR, own, hg⟩ := hrel
        have htl := hR.out.re.1
        by_cases hlt2 : k < q
        · have hkI : (k : Int) < (q : Int) := by omega
          obtain ⟨k1, hk1⟩ : ∃ k1, k1 = k + 1 := ⟨_, rfl⟩
          have hwk : IntKind.i64.wrap ((k : Int) + 1) = (k1 : Int) := by rw [IntKind.wrap_i64]; omega
          obtain ⟨B1, d1, r1, B2, d2, r2, _, _, hr1, hr2, hc1, hc2, hf1, hf2, _, _, own2, hg2⟩ := own.swap (i := k) (j := k1) (by omega) (by omega) (by omega)
          have HR2 : Hid (Rise code (swp t k k1) a b k1) := hide (by rw [hk1]; exact hR.out.step hk (by omega) hb)
          have hpq : k < k1 := by omega
          have hpl : (k : Int) < (code.length : Int) := by omega
          have hql : (k1 : Int) < (code.length : Int) := by omega
          have HO := hide own2
          have HG := hide (grown_drew_ (grown_trans hg hg2))
          have HK1 := hide hk1
          clear own own2 hg hg2 htl hr1 hr2 hR hk1
          go_wp2_with fail
          go_region
          all_goals go_wp2
          all_goals go_roundw
          case rel => exact ⟨k1, _, by omega, by have := HK1.out; omega, rfl, HR2, HO.out, HG.out⟩
          case measure => have := HK1.out; simp [intOf]; omega
        · have hkI : ¬ (k : Int) < (q : Int) := by omega
          obtain rfl : k = q := by omega
          have hiq := HQ.out
          have HF := hide (hR.out.stop hk hqb hb HS2.out (fun q x y h1 h2 e1 e2 => hS.out.lo q x y (by omega) (by omega) e1 e2) (fun q x y h1 h2 e1 e2 => hS.out.hi q x y (by omega) h2 e1 e2))
          clear hiq htl
          go_wp2_with fail
          refine bodyPost_end (results_none rfl _ _ _) rfl ?_
          exact ⟨rfl, t, own, hR.out.re, HF.out, hg⟩
set_option maxRecDepth 20000 in
set_option maxHeartbeats 8000000 in
theorem symB_any (g c base top a m : Nat) (code : List (List Int)) (w : World) (h : OwnC w base top (some ⟨g, 0, none⟩) c code) (hb : m + 1 ≤ code.length) (ham : a + 1 < m) (hl : code.length ≤ 64) (hrl : ∀ r ∈ code, r.length ≤ 1048576) (hs1 : So a m code) :
    Calls Try.prog 135 #[.slice (some ⟨g, 0, none⟩) code.length c, .int .i64 (a : Int), .int .i64 (m : Int), .int .i64 ((m : Int) + 1), .func (.func 82) #[] #[]] w (RetMg g c base top a (m + 1) code w) := by
  have hw1 : IntKind.i64.wrap ((m : Int) - (a : Int)) = (m : Int) - (a : Int) := by rw [IntKind.wrap_i64]; omega
  have hw2 : IntKind.i64.wrap ((m : Int) + 1 - (m : Int)) = 1 := by rw [IntKind.wrap_i64]; omega
  have hn1 : ((m : Int) - (a : Int) == 1) = false := by simp; omega
  have HRL := hide hrl
  have HS1 := hide hs1
  clear hrl hs1
  go_enter Try.func135, Try.ntmps135
  go_wp2_with fail
  go_loopw [14, 15] (fun s14 s15 wr => ∃ i j : Nat, a ≤ i ∧ i ≤ j ∧ j ≤ m ∧ s14 = .int .i64 (i : Int) ∧ s15 = .int .i64 (j : Int) ∧ Hid (SrchM code a m i j) ∧ OwnC wr base top (some ⟨g, 0, none⟩) c code ∧ w.grownBy wr (some g)) (fun s14 s15 _ => (intOf s15).toNat - (intOf s14).toNat)
  case atStart => exact ⟨a, m, Nat.le_refl _, by omega, Nat.le_refl _, rfl, rfl, hide SrchM.start, h, World.grownBy.refl _ _⟩
  case round =>
    clear h hw1 hw2 hn1
    obtain ⟨i, j, hi, hij, hjm, rfl, rfl, hS, own, hg⟩ := hrel
    by_cases hlt : i < j
    · have hltI : (i : Int) < (j : Int) := by omega
      obtain ⟨h, hh⟩ : ∃ h, h = (i + j) / 2 := ⟨_, rfl⟩
      have hih : i ≤ h := by omega
      have hhj : h < j := by omega
      have hdiv : ((i : Int) + (j : Int)) / 2 = (h : Int) := by omega
      have hwh : IntKind.i64.wrap ((h : Int) + 1) = ((h + 1 : Nat) : Int) := by rw [IntKind.wrap_i64]; omega
      obtain ⟨h1, hh1⟩ : ∃ h1, h1 = h + 1 := ⟨_, rfl⟩
      rw [← hh1] at hwh
      have HH1 := hide hh1
      have hlI : (h : Int) < (code.length : Int) := by omega
      have haI : (m : Int) < (code.length : Int) := by omega
      obtain ⟨B1, d1, r1, B2, d2, r2, _, _, hr1, hr2, hc1, hc2, _, _, hrd1, hrd2, _, _⟩ := own.swap (i := m) (j := h) (by omega) (by omega) (by omega)
      have hm1 := HRL.out r1 (List.mem_of_getElem? hr1)
      have hm2 := HRL.out r2 (List.mem_of_getElem? hr2)
      have hCMP := fun W (e1 : RI W B1 r1) (e2 : RI W B2 r2) => sortCmp_any B1 B2 d1 d2 r1 r2 W e1 e2 hm1 hm2
      by_cases hneg : cmpR r1 r2 < 0
      · have HS : Hid (SrchM code a m i h) := hide (hS.out.down HS1.out (by omega) (by omega) hr2 hr1 hneg)
        have hdl : decide (cmpR r1 r2 < 0) = true := decide_eq_true hneg
        clear hh hh1 hr1 hr2 hS
        go_wp2_with fail
        go_quiet ((first | (go_at_call 82; exact quiet1 (hCMP _ hrd1 hrd2)) | fail))
        go_wp2_with fail
        go_roundw
        case rel => exact ⟨i, h, hi, by omega, by omega, rfl, rfl, HS, own, grown_as hg rfl rfl rfl rfl⟩
        case measure => simp [intOf]; omega
      · have HS : Hid (SrchM code a m (h + 1) j) := hide (hS.out.up HS1.out (by omega) (by omega) hr2 hr1 hneg)
        rw [← HH1.out] at HS
        have hdl : decide (cmpR r1 r2 < 0) = false := decide_eq_false hneg
        clear hh hh1 hr1 hr2 hS
        go_wp2_with fail
        go_quiet ((first | (go_at_call 82; exact quiet1 (hCMP _ hrd1 hrd2)) | fail))
        go_wp2_with fail
        go_roundw
        case rel => exact ⟨h1, j, by rw [HH1.out]; omega, by rw [HH1.out]; omega, hjm, rfl, rfl, HS, own, grown_as hg rfl rfl rfl rfl⟩
        case measure => have := HH1.out; simp [intOf]; omega
    · have hltI : ¬ (i : Int) < (j : Int) := by omega
      obtain rfl : i = j := by omega
      go_wp2_with fail
      go_loopw [17] (fun s17 wr => ∃ (k : Nat) (t : List (List Int)), i ≤ k ∧ k ≤ m ∧ s17 = .int .i64 (k : Int) ∧ Hid (Sink code t a m k) ∧ OwnC wr base top (some ⟨g, 0, none⟩) c t ∧ w.grownBy wr (some g)) (fun s17 _ => (intOf s17).toNat)
      case atStart => exact ⟨m, code, hjm, Nat.le_refl _, rfl, hide Sink.start, own, hg⟩
      case round =>
        clear own hg
        obtain ⟨k, t, hk, hkm, rfl, hR, own, hg⟩ := hrel
        have htl := hR.out.re.1
        have hxm : code[m]? = some code[m] := List.getElem?_eq_getElem (by omega)
        by_cases hlt2 : i < k
        · have hkI : (k : Int) > (i : Int) := by omega
          obtain ⟨k1, hk1⟩ : ∃ k1, k = k1 + 1 := ⟨k - 1, by omega⟩
          have hwk : IntKind.i64.wrap ((k : Int) - 1) = (k1 : Int) := by rw [IntKind.wrap_i64]; omega
          obtain ⟨B1, d1, r1, B2, d2, r2, _, _, hr1, hr2, hc1, hc2, hf1, hf2, _, _, own2, hg2⟩ := own.swap (i := k) (j := k1) (by omega) (by omega) (by omega)
          have hxx : cmpR r1 r2 < 0 := by
            have e1 : some r1 = code[m]? := by rw [← hR.out.here]; exact hr1.symm
            have e2 : some r2 = code[k1]? := by rw [← hR.out.low k1 (by omega)]; exact hr2.symm
            exact hS.out.hi k1 r2 r1 (by omega) (by omega) e2.symm e1.symm
          have HR2 : Hid (Sink code (swp t k k1) a m k1) := hide (by
            have h0 := hR.out
            rw [hk1] at h0 hr1 ⊢
            exact h0.step (by omega) (by omega) (by omega) hr1 hr2 hxx)
          have hpq : k1 < k := by omega
          have hpl : (k : Int) < (code.length : Int) := by omega
          have hql : (k1 : Int) < (code.length : Int) := by omega
          have HO := hide own2
          have HG := hide (grown_drew_ (grown_trans hg hg2))
          have HK1 := hide hk1
          clear own own2 hg hg2 htl hr1 hr2 hR hk1 hxm hxx
          go_wp2_with fail
          go_region
          all_goals go_wp2
          all_goals go_roundw
          case rel => exact ⟨k1, _, by have := HK1.out; omega, by omega, rfl, HR2, HO.out, HG.out⟩
          case measure => simp [intOf]; omega
        · have hkI : ¬ (k : Int) > (i : Int) := by omega
          obtain rfl : k = i := by omega
          have HF := hide (hR.out.stop (by omega) hi hkm HS1.out (by
            by_cases hka : k = a
            · exact .inl hka
            · refine .inr ⟨code[m], code[k - 1], by rw [hR.out.here]; exact hxm, ?_, ?_⟩
              · rw [hR.out.low _ (by omega)]
                exact List.getElem?_eq_getElem (by omega)
              · exact hS.out.lo (k - 1) _ _ (by omega) (by omega) (List.getElem?_eq_getElem (by omega)) hxm))
          clear hxm htl
          go_wp2_with fail
          refine bodyPost_end (results_none rfl _ _ _) rfl ?_
          exact ⟨rfl, t, own, hR.out.re, HF.out, hg⟩
end Go.Proofs.Ytnjojnnapdhijaa
