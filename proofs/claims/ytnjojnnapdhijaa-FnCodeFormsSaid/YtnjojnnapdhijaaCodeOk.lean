/-
  Contracts: the sizes of codes, and whether a code is valid, of the reference and of the program. Conditions: the size is far below the machine's.
-/
import Derived.Test.YtnjojnnapdhijaaCopyM
import Derived.Outline
namespace Go.Proofs.Ytnjojnnapdhijaa
open Go.RowKit
set_option linter.unusedVariables false

set_option maxHeartbeats 1000000 in
theorem l14Size_any (A : Option Addr) (c T : Nat) (code : List (List Int)) (w : World) (hc : RC w T A code) (hn : code.length + sumLen code ≤ 1048576) :
    Calls Try.prog 120 #[.slice A code.length c] w fun e w' => e = .returned (.int .i64 (sumLen code : Int)) ∧ w = w' := by
  have hS := hide (sumLen_take_le code)
  go_enter Try.func120, Try.ntmps120
  go_wp2
  go_loop [3, 4] (fun s i => ∃ k : Nat, k ≤ code.length ∧ i = .int .i64 k ∧ s = .int .i64 (sumLen (code.take k) : Int)) (fun _ i => code.length - (intOf i).toNat)
  case atStart => exact ⟨0, Nat.zero_le _, rfl, by simp [sumLen_nil]⟩
  case round =>
    obtain ⟨k, hk, rfl, rfl⟩ := hrel
    by_cases hlt : k < code.length
    · obtain ⟨b, off, B, d, xs, rfl, hb, hx, hce, hd1, hd2, hr⟩ := hc.row hlt
      have h1 := sumLen_next hx
      have h2 := hS.out (k + 1)
      have h3 : sumLen (code.take k) ≤ 1048576 := by omega
      have h4 : xs.length ≤ 1048576 := by omega
      have H1 : Hid ((sumLen (code.take k) : Int) + (xs.length : Int) = (sumLen (code.take (k + 1)) : Int)) := hide (by omega)
      clear h1 h2 hx
      go_wp2_with fail
      go_round
      case rel => exact ⟨k + 1, by omega, by go_num, by rw [H1.out]⟩
      case measure => simp [intOf]; omega
    · go_wp2_with fail
      go_ret
      obtain rfl : k = code.length := by omega
      exact ⟨ret_int (by rw [List.take_of_length_le (Nat.le_refl _)]), rfl⟩
set_option maxHeartbeats 1000000 in
theorem countCoded_any (A : Option Addr) (c T : Nat) (code : List (List Int)) (w : World) (hc : RC w T A code) (hn : code.length + sumLen code ≤ 1048576) :
    Calls Try.prog 93 #[.slice A code.length c] w fun e w' => e = .returned (.int .i64 ((sumLen code / 2 : Nat) : Int)) ∧ w = w' := by
  have hS := hide (sumLen_take_le code)
  go_enter Try.func93, Try.ntmps93
  go_wp2
  go_loop [3, 8] (fun s i => ∃ k : Nat, k ≤ code.length ∧ i = .int .i64 k ∧ s = .int .i64 (sumLen (code.take k) : Int)) (fun _ i => code.length - (intOf i).toNat)
  case atStart => exact ⟨0, Nat.zero_le _, rfl, by simp [sumLen_nil]⟩
  case round =>
    obtain ⟨k, hk, rfl, rfl⟩ := hrel
    by_cases hlt : k < code.length
    · obtain ⟨b, off, B, d, xs, rfl, hb, hx, hce, hd1, hd2, hr⟩ := hc.row hlt
      have h1 := sumLen_next hx
      have h2 := hS.out (k + 1)
      have h3 : sumLen (code.take k) ≤ 1048576 := by omega
      have h4 : xs.length ≤ 1048576 := by omega
      have H1 : Hid ((sumLen (code.take k) : Int) + (xs.length : Int) = (sumLen (code.take (k + 1)) : Int)) := hide (by omega)
      clear h1 h2 hx
      go_wp2_with fail
      go_round
      case rel => exact ⟨k + 1, by omega, by go_num, by rw [H1.out]⟩
      case measure => simp [intOf]; omega
    · have h2 := hS.out k
      have h3 : sumLen (code.take k) ≤ 1048576 := by omega
      go_wp2_with fail
      go_ret
      obtain rfl : k = code.length := by omega
      exact ⟨ret_int (by rw [List.take_of_length_le (Nat.le_refl _)]), rfl⟩

theorem boolE_at {w : World} {base : Nat} {A : Option Addr} {c : Nat} {l : List Bool} (h : Own boolE w base A c l) {k : Nat} {v : Bool} (hv : l[k]? = some v) :
    ∃ g, A = some ⟨g, 0, none⟩ ∧ base ≤ g ∧ g < w.heap.size ∧ w.cell? ⟨g, k, none⟩ = some (.bool v) ∧ w.frozen? ⟨g, k, none⟩ = false ∧ ∀ y, Own boolE (w.setCell ⟨g, k, none⟩ (.bool y)) base A c (l.set k y) ∧ w.grownBy (w.setCell ⟨g, k, none⟩ (.bool y)) (some g) := by
  have hk := (List.getElem?_eq_some_iff.1 hv).1
  obtain ⟨g, x, rfl, hb, hs, hx, hc, hf⟩ := h.row hk
  rw [hv] at hx
  injection hx with hx
  subst hx
  have hc0 := hc 0 _ rfl
  have e0 : k * boolE.size + 0 = k := by simp [boolE]
  rw [e0] at hc0
  refine ⟨g, rfl, hb, hs, hc0, hf k, fun y => ?_⟩
  have hp := h.put (k := k) (j := 0) (x := v) (y := y) (u := .bool y) hv (by simp [boolE]) rfl
  rw [e0] at hp
  exact hp
theorem run_make_seen (N : Nat) (hN : N ≤ 120) (W : World) :
    (Instr.makeSlice 71 (.int .i64 (2 * (N : Int) + 1)) (.int .i64 (2 * (N : Int) + 1))).run Try.prog W = .ok (.slice (some ⟨W.heap.size, 0, none⟩) (2 * N + 1) (2 * N + 1)) (W.alloc (.cells (madeCells boolE.z.cells ((2 * N + 1) * boolE.size)) 4)) := by
  have := boolE.run_make (2 * N + 1) (by simp [boolE]; omega) (by omega) W
  rw [show ((2 * N + 1 : Nat) : Int) = 2 * (N : Int) + 1 by omega] at this
  exact this

set_option maxHeartbeats 8000000 in
theorem l14Ok_any (A : Option Addr) (c T : Nat) (code : List (List Int)) (w : World) (hc : RC w T A code) (hn : code.length + sumLen code ≤ 1048576) :
    Calls Try.prog 71 #[.slice A code.length c] w (RetV w (.bool (validC code))) := by
  by_cases h40 : 40 < code.length
  · have HV := hide (validC_long h40)
    go_enter Try.func71, Try.ntmps71
    go_wp2_with (go_at_call 120; refine (l14Size_any _ _ _ _ _ hc hn).mono ?_; rintro e w' ⟨rfl, rfl⟩)
    go_ret
    rw [HV.out]
    exact ⟨rfl, Below.refl _ _⟩
  · by_cases hodd : sumLen code % 2 = 0
    · obtain ⟨N, hN⟩ : ∃ N, sumLen code = 2 * N := ⟨sumLen code / 2, by omega⟩
      have e1 : (sumLen code : Int) / 2 = (N : Int) := by omega
      have e2 : ((sumLen code : Int) % 2 != 0) = false := by rw [bne_eq_false_iff_eq]; omega
      by_cases hmany : 120 < N
      · have HV := hide (validC_many (code := code) (by omega))
        have hmI : (120 : Int) < (N : Int) := by omega
        clear hodd hN
        go_enter Try.func71, Try.ntmps71
        go_wp2_with (go_at_call 120; refine (l14Size_any _ _ _ _ _ hc hn).mono ?_; rintro e w' ⟨rfl, rfl⟩)
        go_ret
        rw [HV.out]
        exact ⟨rfl, Below.refl _ _⟩
      · have HV := hide (validC_good (code := code) (N := N) (by omega) hN (by omega))
        have hmI : ¬ (120 : Int) < (N : Int) := by omega
        have hmk := fun W : World => run_make_seen N (by omega) W
        have hnew : Own boolE (w.alloc (.cells (madeCells boolE.z.cells ((2 * N + 1) * boolE.size)) 4)) w.heap.size (some ⟨w.heap.size, 0, none⟩) (2 * N + 1) (seenL N []) := by
          rw [seenL_nil]
          exact Own.made (E := boolE) w _ false rfl rfl (Nat.le_refl _) (by omega)
        clear hodd hN
        go_enter Try.func71, Try.ntmps71
        go_wp2_with (go_at_call 120; refine (l14Size_any _ _ _ _ _ hc hn).mono ?_; rintro e w' ⟨rfl, rfl⟩)
        clear e1 e2
        go_loopw [5] (fun s5 wr => ∃ (i : Nat), i ≤ code.length ∧ s5 = .int .i64 i ∧ Hid (Good N (upTo code i 0)) ∧ Own boolE wr w.heap.size (some ⟨w.heap.size, 0, none⟩) (2 * N + 1) (seenL N (upTo code i 0)) ∧ Below w.heap.size w wr) (fun s5 _ => code.length - (intOf s5).toNat)
        case atStart => exact ⟨0, Nat.zero_le _, rfl, hide (by rw [upTo_zero]; exact Good.nil N), by rw [upTo_zero]; exact hnew, (Below.refl _ _).alloc (Nat.le_refl _) _⟩
        case round =>
          clear hnew hmk
          obtain ⟨i, hi, rfl, hg, own, hB⟩ := hrel
          obtain ⟨wo, rfl⟩ : ∃ wo : World, wo = wr := ⟨_, rfl⟩
          by_cases hlt : i < code.length
          · have hrow0 := (hc.below hB).row hlt
            obtain ⟨b, off, B, d, xs, rfl, hb, hx, hce, hd1, hd2, hr⟩ := hrow0
            have HX := hide hx
            clear hx
            go_wp2_with fail
            go_loopw [6] (fun s6 wr => ∃ (k : Nat), k ≤ xs.length ∧ s6 = .int .i64 k ∧ Hid (Good N (upTo code i k)) ∧ Own boolE wr w.heap.size (some ⟨w.heap.size, 0, none⟩) (2 * N + 1) (seenL N (upTo code i k)) ∧ Below w.heap.size w wr) (fun s6 _ => xs.length - (intOf s6).toNat)
            case atStart => exact ⟨0, Nat.zero_le _, rfl, hg, own, hB⟩
            case round =>
              clear own hg hce hr hb hB
              obtain ⟨k, hk, rfl, hg, own, hB⟩ := hrel
              obtain ⟨b', off', B', d', xs', hA', hb, hx', hce, _, _, hr⟩ := (hc.below hB).row hlt
              injection hA' with hA'; injection hA' with q1 q2; subst q1 q2
              have HX' := HX.out
              rw [hx'] at HX'
              injection HX' with HX'
              subst HX'
              clear hx'
              by_cases hkl : k < xs'.length
              · obtain ⟨b2, off2, x, rfl, hb2, hx, hcx⟩ := hr.at_ hkl
                cases hin : inB x (-(N : Int)) N
                · have hbad := inB_false.1 hin
                  have HF := hide (HV.out.trans (decide_eq_false (bad_range HX.out hx (by omega))))
                  clear hx hg
                  go_wp2_with (go_at_call 65; refine (l00In_any _ _ _ _).mono ?_; rintro e w' ⟨rfl, rfl⟩)
                  go_ret
                  rw [HF.out]
                  exact ⟨rfl, hB⟩
                · obtain ⟨n1, n2⟩ := inB_true.1 hin
                  by_cases hx0 : x = 0
                  · have HF := hide (HV.out.trans (decide_eq_false (bad_range HX.out hx (.inr (.inr hx0)))))
                    have t0 : (x == 0) = true := by simp [hx0]
                    clear hx hg hx0
                    go_wp2_with (go_at_call 65; refine (l00In_any _ _ _ _).mono ?_; rintro e w' ⟨rfl, rfl⟩)
                    go_ret
                    rw [HF.out]
                    exact ⟨rfl, hB⟩
                  · have t0 : (x == 0) = false := by simp [hx0]
                    obtain ⟨m, hm⟩ : ∃ m : Nat, x + (N : Int) = (m : Int) := ⟨(x + N).toNat, by omega⟩
                    have hm1 : m < 2 * N + 1 := by omega
                    have hs := seenL_at (l := upTo code i k) hm hm1
                    obtain ⟨g, hg1, hg2, hg3, hg4, hg5, hg6⟩ := boolE_at own hs
                    injection hg1 with hg1; injection hg1 with hg1; subst hg1
                    have hmI2 : (m : Int) < 2 * (N : Int) + 1 := by omega
                    by_cases hmem : x ∈ upTo code i k
                    · have HF := hide (HV.out.trans (decide_eq_false (bad_twice HX.out hx hmem)))
                      rw [decide_eq_true hmem] at hg4
                      clear hx hg hx0 hs hg6 hmem
                      go_wp2_with (go_at_call 65; refine (l00In_any _ _ _ _).mono ?_; rintro e w' ⟨rfl, rfl⟩)
                      go_ret
                      rw [HF.out]
                      exact ⟨rfl, hB⟩
                    · rw [decide_eq_false hmem] at hg4
                      have hset := hg6 true
                      rw [seenL_set hm hm1, ← upTo_next HX.out hx] at hset
                      have HG := hide (hg.out.snoc hx0 n1 n2 hmem)
                      rw [← upTo_next HX.out hx] at HG
                      have HO := hide hset.1
                      clear hx hg hx0 hs hg6 hmem hset
                      go_wp2_with (go_at_call 65; refine (l00In_any _ _ _ _).mono ?_; rintro e w' ⟨rfl, rfl⟩)
                      go_roundw
                      case rel => exact ⟨k + 1, by omega, by go_num, HG, HO.out, hB.setCell (Nat.le_refl _) _⟩
                      case measure => simp [intOf]; omega
              · have hup := upTo_row (k := k) HX.out (by omega)
                have hg' := hg.out
                rw [hup] at hg' own
                have HG := hide hg'
                clear hup hg hg'
                go_wp2_with fail
                go_roundw
                case rel => exact ⟨i + 1, by omega, by go_num, HG, own, hB⟩
                case measure => simp [intOf]; omega
          · have hg' := hg.out
            rw [upTo_all (by omega)] at hg'
            have HF := hide (HV.out.trans (decide_eq_true hg'))
            clear hg hg'
            go_wp2_with fail
            go_ret
            rw [HF.out]
            exact ⟨rfl, hB⟩
    · have HV := hide (validC_odd hodd)
      have e2 : ((sumLen code : Int) % 2 != 0) = true := by rw [bne_iff_ne]; omega
      clear hodd
      go_enter Try.func71, Try.ntmps71
      go_wp2_with (go_at_call 120; refine (l14Size_any _ _ _ _ _ hc hn).mono ?_; rintro e w' ⟨rfl, rfl⟩)
      go_ret
      rw [HV.out]
      exact ⟨rfl, Below.refl _ _⟩
set_option maxRecDepth 100000 in
set_option maxHeartbeats 8000000 in
theorem validCode_any (A : Option Addr) (c T : Nat) (code : List (List Int)) (w : World) (hc : RC w T A code) (hn : code.length + sumLen code ≤ 1048576) :
    Calls Try.prog 17 #[.slice A code.length c] w (RetV w (.bool (validC code))) := by
  have HS := hide (sumLen_take_le code)
  have hs1 : sumLen code ≤ 1048576 := by omega
  go_enter Try.func17, Try.ntmps17
  go_wp2_with fail
  go_loop [3, 14] (fun s i => ∃ k : Nat, k ≤ code.length ∧ i = .int .i64 k ∧ s = .int .i64 (sumLen (code.take k) : Int)) (fun _ i => code.length - (intOf i).toNat)
  case atStart => exact ⟨0, Nat.zero_le _, rfl, by simp [sumLen_nil]⟩
  case round =>
    obtain ⟨k, hk, rfl, rfl⟩ := hrel
    by_cases hlt : k < code.length
    · obtain ⟨b, off, B, d, xs, rfl, hb, hx, hce, hd1, hd2, hr⟩ := hc.row hlt
      have h1 := sumLen_next hx
      have h2 := HS.out (k + 1)
      have h3 : sumLen (code.take k) ≤ 1048576 := by omega
      have h4 : xs.length ≤ 1048576 := by omega
      have H1 : Hid ((sumLen (code.take k) : Int) + (xs.length : Int) = (sumLen (code.take (k + 1)) : Int)) := hide (by omega)
      clear h1 h2 hx
      go_wp2_with fail
      go_round
      case rel => exact ⟨k + 1, by omega, by go_num, by rw [H1.out]⟩
      case measure => simp [intOf]; omega
    · obtain rfl : k = code.length := by omega
      have HT : Hid ((sumLen (code.take code.length) : Int) = (sumLen code : Int)) := hide (by rw [List.take_of_length_le (Nat.le_refl _)])
      have ht := HT.out
      by_cases h40 : 40 < code.length
      · have HV := hide (validC_long h40)
        go_wp2_with fail
        go_ret
        rw [HV.out]
        exact ⟨rfl, Below.refl _ _⟩
      · by_cases hodd : sumLen code % 2 = 0
        · obtain ⟨N, hN⟩ : ∃ N, sumLen code = 2 * N := ⟨sumLen code / 2, by omega⟩
          have e1 : (sumLen code : Int) / 2 = (N : Int) := by omega
          have e2 : ((sumLen code : Int) % 2 != 0) = false := by rw [bne_eq_false_iff_eq]; omega
          by_cases hmany : 120 < N
          · have HV := hide (validC_many (code := code) (by omega))
            have hmI : (120 : Int) < (N : Int) := by omega
            clear hodd hN
            go_wp2_with fail
            go_ret
            rw [HV.out]
            exact ⟨rfl, Below.refl _ _⟩
          · have HV := hide (validC_good (code := code) (N := N) (by omega) hN (by omega))
            have hmI : ¬ (120 : Int) < (N : Int) := by omega
            have hmk := fun W : World => run_make_seen N (by omega) W
            have hnew : Own boolE (w.alloc (.cells (madeCells boolE.z.cells ((2 * N + 1) * boolE.size)) 4)) w.heap.size (some ⟨w.heap.size, 0, none⟩) (2 * N + 1) (seenL N []) := by
              rw [seenL_nil]
              exact Own.made (E := boolE) w _ false rfl rfl (Nat.le_refl _) (by omega)
            clear hodd hN
            go_wp2_with fail
            clear e1 e2 ht
            go_loopw [44] (fun s5 wr => ∃ (i : Nat), i ≤ code.length ∧ s5 = .int .i64 i ∧ Hid (Good N (upTo code i 0)) ∧ Own boolE wr w.heap.size (some ⟨w.heap.size, 0, none⟩) (2 * N + 1) (seenL N (upTo code i 0)) ∧ Below w.heap.size w wr) (fun s5 _ => code.length - (intOf s5).toNat)
            case atStart => exact ⟨0, Nat.zero_le _, rfl, hide (by rw [upTo_zero]; exact Good.nil N), by rw [upTo_zero]; exact hnew, (Below.refl _ _).alloc (Nat.le_refl _) _⟩
            case round =>
              clear hnew hmk
              obtain ⟨i, hi, rfl, hg, own, hB⟩ := hrel
              obtain ⟨wo, rfl⟩ : ∃ wo : World, wo = wr := ⟨_, rfl⟩
              by_cases hlt : i < code.length
              · obtain ⟨b, off, B, d, xs, rfl, hb, hx, hce, hd1, hd2, hr⟩ := hc.row hlt
                have hce1 := (hB.cell (p := ⟨b, off + i, none⟩) hb).trans hce
                have hxl := sumLen_row hx
                have HX := hide hx
                clear hx hd1 hd2
                go_wp2_with fail
                go_loopw [50] (fun s6 wr => ∃ (k : Nat), k ≤ xs.length ∧ s6 = .int .i64 k ∧ Hid (Good N (upTo code i k)) ∧ Own boolE wr w.heap.size (some ⟨w.heap.size, 0, none⟩) (2 * N + 1) (seenL N (upTo code i k)) ∧ Below w.heap.size w wr) (fun s6 _ => xs.length - (intOf s6).toNat)
                case atStart => exact ⟨0, Nat.zero_le _, rfl, hg, own, hB⟩
                case round =>
                  clear own hg hce1 hB
                  obtain ⟨k, hk, rfl, hg, own, hB⟩ := hrel
                  have hr2 := hr.below hB
                  by_cases hkl : k < xs.length
                  · obtain ⟨b2, off2, x, rfl, hb2, hx, hcx⟩ := hr2.at_ hkl
                    cases hin : inB x (-(N : Int)) N
                    · have hbad := inB_false.1 hin
                      have HF := hide (HV.out.trans (decide_eq_false (bad_range HX.out hx (by omega))))
                      clear hx hg
                      go_wp2_with (go_at_call 57; refine (inRange_any _ _ _ _).mono ?_; rintro e w' ⟨rfl, rfl⟩)
                      go_ret
                      rw [HF.out]
                      exact ⟨rfl, hB⟩
                    · obtain ⟨n1, n2⟩ := inB_true.1 hin
                      by_cases hx0 : x = 0
                      · have HF := hide (HV.out.trans (decide_eq_false (bad_range HX.out hx (.inr (.inr hx0)))))
                        have t0 : (x == 0) = true := by simp [hx0]
                        clear hx hg hx0
                        go_wp2_with (go_at_call 57; refine (inRange_any _ _ _ _).mono ?_; rintro e w' ⟨rfl, rfl⟩)
                        go_ret
                        rw [HF.out]
                        exact ⟨rfl, hB⟩
                      · have t0 : (x == 0) = false := by simp [hx0]
                        obtain ⟨m, hm⟩ : ∃ m : Nat, x + (N : Int) = (m : Int) := ⟨(x + N).toNat, by omega⟩
                        have hm1 : m < 2 * N + 1 := by omega
                        have hs := seenL_at (l := upTo code i k) hm hm1
                        obtain ⟨g, hg1, hg2, hg3, hg4, hg5, hg6⟩ := boolE_at own hs
                        injection hg1 with hg1; injection hg1 with hg1; subst hg1
                        have hmI2 : (m : Int) < 2 * (N : Int) + 1 := by omega
                        by_cases hmem : x ∈ upTo code i k
                        · have HF := hide (HV.out.trans (decide_eq_false (bad_twice HX.out hx hmem)))
                          rw [decide_eq_true hmem] at hg4
                          clear hx hg hx0 hs hg6 hmem
                          go_wp2_with (go_at_call 57; refine (inRange_any _ _ _ _).mono ?_; rintro e w' ⟨rfl, rfl⟩)
                          go_ret
                          rw [HF.out]
                          exact ⟨rfl, hB⟩
                        · rw [decide_eq_false hmem] at hg4
                          have hset := hg6 true
                          rw [seenL_set hm hm1, ← upTo_next HX.out hx] at hset
                          have HG := hide (hg.out.snoc hx0 n1 n2 hmem)
                          rw [← upTo_next HX.out hx] at HG
                          have HO := hide hset.1
                          clear hx hg hx0 hs hg6 hmem hset
                          go_wp2_with (go_at_call 57; refine (inRange_any _ _ _ _).mono ?_; rintro e w' ⟨rfl, rfl⟩)
                          go_roundw
                          case rel => exact ⟨k + 1, by omega, by go_num, HG, HO.out, hB.setCell (Nat.le_refl _) _⟩
                          case measure => simp [intOf]; omega
                  · have hup := upTo_row (k := k) HX.out (by omega)
                    have hg' := hg.out
                    rw [hup] at hg' own
                    have HG := hide hg'
                    clear hup hg hg'
                    go_wp2_with fail
                    go_roundw
                    case rel => exact ⟨i + 1, by omega, by go_num, HG, own, hB⟩
                    case measure => simp [intOf]; omega
              · have hg' := hg.out
                rw [upTo_all (by omega)] at hg'
                have HF := hide (HV.out.trans (decide_eq_true hg'))
                clear hg hg'
                go_wp2_with fail
                go_ret
                rw [HF.out]
                exact ⟨rfl, hB⟩
        · have HV := hide (validC_odd hodd)
          have e2 : ((sumLen code : Int) % 2 != 0) = true := by rw [bne_iff_ne]; omega
          clear hodd
          go_wp2_with fail
          go_ret
          rw [HV.out]
          exact ⟨rfl, Below.refl _ _⟩
end Go.Proofs.Ytnjojnnapdhijaa
