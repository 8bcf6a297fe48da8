/-
  Contract: CodeFault, of the program. Conditions: none beyond the lengths.
-/
import Derived.Test.YtnjojnnapdhijaaIsOdd
import Derived.Test.YtnjojnnapdhijaaCodeOk
import Derived.Laws.StructEq
namespace Go.Proofs.Ytnjojnnapdhijaa
open Go.RowKit
set_option linter.unusedVariables false

theorem pl_neq (W : World) (a b c d : Int) : (binOp .neq 63 (.agg #[.int .i64 a, .int .i64 b]) (.agg #[.int .i64 c, .int .i64 d])).run Try.prog W = .ok (.bool (!(a == c && b == d))) W := by
  have u3 := Try.underlying3
  have hS : Try.prog.underlying 63 = some (.struct (Try.prog.fieldsOf 63)) := by kernel_rfl
  have hp : Try.prog.stoodInHeld 63 = false := by kernel_rfl
  rw [run_neq_struct, show (10000 : Nat) = 9999 + 1 from rfl, run_equalIn_agg W 9999 63 _ _ hS hp]
  simp only [Program.fieldsOf, Try.underlying63]
  go_simp
  by_cases h1 : a = c <;> by_cases h2 : b = d <;> simp [h1, h2]
theorem pl_eql (W : World) (a b c d : Int) : (binOp .eql 63 (.agg #[.int .i64 a, .int .i64 b]) (.agg #[.int .i64 c, .int .i64 d])).run Try.prog W = .ok (.bool (a == c && b == d)) W := by
  have u3 := Try.underlying3
  have hS : Try.prog.underlying 63 = some (.struct (Try.prog.fieldsOf 63)) := by kernel_rfl
  have hp : Try.prog.stoodInHeld 63 = false := by kernel_rfl
  rw [run_eql_struct, show (10000 : Nat) = 9999 + 1 from rfl, run_equalIn_agg W 9999 63 _ _ hS hp]
  simp only [Program.fieldsOf, Try.underlying63]
  go_simp
  by_cases h1 : a = c <;> by_cases h2 : b = d <;> simp [h1, h2]
theorem pl_guard (W : World) (op : BinOp) (x y : Operand) (xs ys : Array Value) : (eqGuard op 63 x y (.agg xs) (.agg ys)).run Try.prog W = .ok () W := run_eqGuard_agg W op _ x y xs ys (by kernel_rfl)

def fV (p : Int × Int × Int) : Value := .tuple #[.int .i64 p.1, .int .i64 p.2.1, .int .i64 p.2.2]
theorem fV_mk {p : Int × Int × Int} {a b c : Int} (h : p = (a, b, c)) : fV p = .tuple #[.int .i64 a, .int .i64 b, .int .i64 c] := by rw [h]; rfl
theorem inB_abs {x M : Int} (h : inB x (-M) M = true) : -M ≤ x ∧ x ≤ M := inB_true.1 h
theorem half_bound {code : List (List Int)} (h : sumLen code ≤ 240) : 0 ≤ halfC code ∧ halfC code ≤ 120 := by unfold halfC; omega

set_option maxRecDepth 100000 in
set_option maxHeartbeats 8000000 in
theorem implFault_any (A : Option Addr) (c T : Nat) (code : List (List Int)) (w : World) (hc : RC w T A code) (hn : code.length + sumLen code ≤ 1048576) :
    Calls Try.prog 9 #[.slice A code.length c] w (RetV w (fV (faultC code))) := by
  have HS := hide (sumLen_take_le code)
  have hn0 := hn
  by_cases h40 : 40 < code.length
  · have HF := hide (fV_mk (fault_long h40))
    go_enter Try.func9, Try.ntmps9
    go_wp2_with fail
    refine bodyPost_ret (v := .tuple #[.int .i64 1, .int .i64 0, .int .i64 0]) (by simp [results, Try.results9, go_sem]) rfl ?_
    rw [HF.out]
    exact ⟨rfl, Below.refl _ _⟩
  · have H40 := hide h40
    go_enter Try.func9, Try.ntmps9
    go_wp2_with fail
    go_loop [5, 29] (fun s i => ∃ k : Nat, k ≤ code.length ∧ i = .int .i64 k ∧ s = .int .i64 (sumLen (code.take k) : Int) ∧ sumLen (code.take k) ≤ 240 ∧ Hid (∀ j, j < k → manyP code j = false)) (fun _ i => code.length - (intOf i).toNat)
    case atStart => exact ⟨0, Nat.zero_le _, rfl, by simp [sumLen_nil], by simp [sumLen_nil], hide (fun j hj => absurd hj (by omega))⟩
    case round =>
      obtain ⟨k, hk, rfl, rfl, h240, hmany⟩ := hrel
      by_cases hlt : k < code.length
      · obtain ⟨b, off, B, d, xs, rfl, hb, hx, hce, hd1, hd2, hr⟩ := hc.row hlt
        have h1 := sumLen_next hx
        have h2 := HS.out (k + 1)
        have h4 : xs.length ≤ 1048576 := by omega
        obtain ⟨S, hS⟩ : ∃ S, S = sumLen (code.take (k + 1)) := ⟨_, rfl⟩
        have H1 : Hid ((sumLen (code.take k) : Int) + (xs.length : Int) = (S : Int)) := hide (by omega)
        have h3 := H1.out
        have HSS := hide hS
        by_cases hbig : 240 < S
        · have HF := hide (fV_mk (fault_many H40.out hlt hmany.out (decide_eq_true (by omega))))
          have h5 : (240 : Int) < (S : Int) := by omega
          clear h1 h2 hx hS
          go_wp2_with fail
          refine bodyPost_ret (v := .tuple #[.int .i64 1, .int .i64 (k : Int), .int .i64 0]) (by simp [results, Try.results9, go_sem]) rfl ?_
          rw [HF.out]
          exact ⟨rfl, Below.refl _ _⟩
        · have HM : Hid (∀ j, j < k + 1 → manyP code j = false) := hide (fun j hj => by
            rcases Nat.lt_or_ge j k with h | h
            · exact hmany.out j h
            · obtain rfl : j = k := by omega
              exact decide_eq_false (by omega))
          have h5 : ¬ (240 : Int) < (S : Int) := by omega
          clear h1 h2 hx hS
          go_wp2_with fail
          go_round
          case rel => exact ⟨k + 1, by omega, by go_num, by rw [HSS.out], by have := HSS.out; omega, HM⟩
          case measure => simp [intOf]; omega
      · obtain rfl : k = code.length := by omega
        have ht : (sumLen (code.take code.length) : Int) = (sumLen code : Int) := by rw [List.take_of_length_le (Nat.le_refl _)]
        have hsum : sumLen code ≤ 240 := by omega
        have hhb := half_bound hsum
        obtain ⟨M, hM⟩ : ∃ M, M = halfC code := ⟨_, rfl⟩
        have e1 : ((sumLen code : Int) + 1) / 2 = M := hM.symm
        rw [← hM] at hhb
        obtain ⟨hm0, hm1⟩ := hhb
        have HM := hide hM
        clear hM h240
        go_wp2_with fail
        refine (places_any _ _ T code _ hc hn).mono ?_
        rintro e w1 ⟨mb, l, rfl, hbs, hmp, HL, hb1⟩
        have hc1 := hc.below hb1
        have hlpl := hide (atK_plc HL.out)
        clear e1 ht
        go_wp2_with fail
        go_loop [49] (fun s => ∃ i : Nat, i ≤ code.length ∧ s = .int .i64 i ∧ Hid ((posTo code i 0).find? (badP code) = none)) (fun s => code.length - (intOf s).toNat)
        case atStart => exact ⟨0, Nat.zero_le _, rfl, hide (by rw [posTo_zero]; rfl)⟩
        case round =>
          obtain ⟨i, hi, rfl, hbad⟩ := hrel
          by_cases hlt : i < code.length
          · obtain ⟨b, off, B, d, xs, rfl, hb, hx, hce, hd1, hd2, hr⟩ := hc1.row hlt
            have HX := hide hx
            have hxl := sumLen_row hx
            clear hx hd1 hd2
            go_wp2_with fail
            go_loop [56] (fun s => ∃ k : Nat, k ≤ xs.length ∧ s = .int .i64 k ∧ Hid ((posTo code i k).find? (badP code) = none)) (fun s => xs.length - (intOf s).toNat)
            case atStart => exact ⟨0, Nat.zero_le _, rfl, hbad⟩
            case round =>
              clear hbad
              obtain ⟨k, hk, rfl, hbad⟩ := hrel
              by_cases hkl : k < xs.length
              · obtain ⟨b2, off2, x, rfl, hb2, hx, hcx⟩ := hr.at_ hkl
                by_cases hx0 : x = 0
                · have HF := hide (fV_mk (fault_bad H40.out hmany.out (find_hit HX.out hx hbad.out (by unfold badP; simp [hx0]))))
                  have HK : Hid (badKind code (x, (i : Int), (k : Int)) = 2) := hide (by unfold badKind; rw [if_pos hx0])
                  have t0 : (x == 0) = true := by simp [hx0]
                  clear hx hx0
                  go_wp2_with fail
                  refine bodyPost_ret (v := .tuple #[.int .i64 2, .int .i64 (i : Int), .int .i64 (k : Int)]) (by simp [results, Try.results9, go_sem]) rfl ?_
                  rw [HF.out, HK.out]
                  exact ⟨rfl, hb1⟩
                · have t0 : (x == 0) = false := by simp [hx0]
                  cases hin : inB x (-M) M
                  · have HF := hide (fV_mk (fault_bad H40.out hmany.out (find_hit HX.out hx hbad.out (by unfold badP; rw [← HM.out]; simp [hin]))))
                    have HK : Hid (badKind code (x, (i : Int), (k : Int)) = 3) := hide (by unfold badKind; rw [if_neg hx0, if_pos (by rw [← HM.out]; exact hin)])
                    clear hx hx0
                    go_wp2_with (go_at_call 57; refine (inRange_any _ _ _ _).mono ?_; rintro e w' ⟨rfl, rfl⟩)
                    refine bodyPost_ret (v := .tuple #[.int .i64 3, .int .i64 (i : Int), .int .i64 (k : Int)]) (by simp [results, Try.results9, go_sem]) rfl ?_
                    rw [HF.out, HK.out]
                    exact ⟨rfl, hb1⟩
                  · obtain ⟨p1, p2, hp⟩ : ∃ p1 p2, plc code x = (p1, p2) := ⟨_, _, rfl⟩
                    have hpo : placeOf code x = some (p1, p2) := by
                      cases ho : placeOf code x with
                      | none => exact absurd (List.mem_flatten.2 ⟨xs, List.mem_of_getElem? HX.out, List.mem_of_getElem? hx⟩) (placeOf_none.1 ho)
                      | some q => unfold plc at hp; rw [ho] at hp; simp at hp; rw [hp]
                    have hlk := (hmp.look_pl (x := x) ((hlpl.out x).trans hp)).1
                    have hne := fun W => pl_neq W p1 p2 (i : Int) (k : Int)
                    have hgd := fun W x y => pl_guard W .neq x y #[.int .i64 p1, .int .i64 p2] #[.int .i64 (i : Int), .int .i64 (k : Int)]
                    by_cases hpp : p1 = (i : Int) ∧ p2 = (k : Int)
                    · have hv : (!(p1 == (i : Int) && p2 == (k : Int))) = false := by simp [hpp]
                      have HB := hide (find_next HX.out hx hbad.out (by unfold badP; rw [← HM.out, hpo]; simp [hin, hx0, hpp]))
                      simp only [hv] at hne
                      clear hv hx hx0 hp hpo hpp
                      go_wp2_with (go_at_call 57; refine (inRange_any _ _ _ _).mono ?_; rintro e w' ⟨rfl, rfl⟩)
                      go_round
                      case rel => exact ⟨k + 1, by omega, by go_num, HB⟩
                      case measure => simp [intOf]; omega
                    · have hv : (!(p1 == (i : Int) && p2 == (k : Int))) = true := by
                        cases h : (p1 == (i : Int) && p2 == (k : Int))
                        · rfl
                        · simp at h; exact absurd h hpp
                      have HF := hide (fV_mk (fault_bad H40.out hmany.out (find_hit HX.out hx hbad.out (by unfold badP; rw [← HM.out, hpo]; simp [hin, hx0]; exact fun h1 h2 => hpp ⟨h1, h2⟩))))
                      have HK : Hid (badKind code (x, (i : Int), (k : Int)) = 4) := hide (by unfold badKind; rw [if_neg hx0, if_neg (by rw [← HM.out, hin]; simp)])
                      simp only [hv] at hne
                      clear hv hx hx0 hp hpo hpp
                      go_wp2_with (go_at_call 57; refine (inRange_any _ _ _ _).mono ?_; rintro e w' ⟨rfl, rfl⟩)
                      refine bodyPost_ret (v := .tuple #[.int .i64 4, .int .i64 (i : Int), .int .i64 (k : Int)]) (by simp [results, Try.results9, go_sem]) rfl ?_
                      rw [HF.out, HK.out]
                      exact ⟨rfl, hb1⟩
              · have HB : Hid ((posTo code (i + 1) 0).find? (badP code) = none) := hide (by rw [← posTo_row (k := k) HX.out (by omega)]; exact hbad.out)
                go_wp2_with fail
                go_round
                case rel => exact ⟨i + 1, by omega, by go_num, HB⟩
                case measure => simp [intOf]; omega
          · have HBAD : Hid ((posC code).find? (badP code) = none) := hide (by rw [← posTo_all (show code.length ≤ i by omega)]; exact hbad.out)
            have hgood : Hid (∀ (i k : Nat) (xs : List Int) (x : Int), code[i]? = some xs → xs[k]? = some x → x ≠ 0 ∧ inB x (-halfC code) (halfC code) = true) := hide (fun i k xs x h1 h2 => good_of_bad HBAD.out h1 h2)
            clear hbad
            go_wp2_with fail
            go_loopw [89] (fun s wr => ∃ i : Nat, i ≤ code.length ∧ s = .int .i64 i ∧ Hid ((posTo code i 0).find? (absentP code) = none) ∧ Mp plE wr mb l ∧ Below w.heap.size w wr) (fun s _ => code.length - (intOf s).toNat)
            case atStart => exact ⟨0, Nat.zero_le _, rfl, hide (by rw [posTo_zero]; rfl), hmp, hb1⟩
            case round =>
              obtain ⟨i, hi, rfl, hab, hmp, hB⟩ := hrel
              obtain ⟨wo, rfl⟩ : ∃ wo : World, wo = wr := ⟨_, rfl⟩
              by_cases hlt : i < code.length
              · obtain ⟨b, off, B, d, xs, rfl, hb, hx, hce, hd1, hd2, hr⟩ := hc.row hlt
                have hce1 := (hB.cell (p := ⟨b, off + i, none⟩) hb).trans hce
                have HX := hide hx
                have hxl := sumLen_row hx
                clear hx hd1 hd2
                go_wp2_with fail
                go_loopw [96] (fun s wr => ∃ k : Nat, k ≤ xs.length ∧ s = .int .i64 k ∧ Hid ((posTo code i k).find? (absentP code) = none) ∧ Mp plE wr mb l ∧ Below w.heap.size w wr) (fun s _ => xs.length - (intOf s).toNat)
                case atStart => exact ⟨0, Nat.zero_le _, rfl, hab, hmp, hB⟩
                case round =>
                  clear hab hmp hce1 hB
                  obtain ⟨k, hk, rfl, hab, hmp, hB⟩ := hrel
                  have hr2 := hr.below hB
                  have hz := hB.size
                  by_cases hkl : k < xs.length
                  · obtain ⟨b2, off2, x, rfl, hb2, hx, hcx⟩ := hr2.at_ hkl
                    obtain ⟨g1, g2⟩ := hgood.out i k xs x HX.out hx
                    have g3 := inB_abs g2
                    have g4 := half_bound (code := code) hsum
                    have wn : IntKind.i64.wrap (-x) = -x := by rw [IntKind.wrap_i64]; omega
                    clear g1 g2 g3 g4
                    have hlook := hmp.look_ok (-x)
                    obtain ⟨p1, p2, hp⟩ : ∃ p1 p2, atK plE l (-x) = (p1, p2) := ⟨_, _, rfl⟩
                    have hlx : l.lookup (-x) = placeOf code (-x) := HL.out _
                    cases hpo : placeOf code (-x) with
                    | none =>
                      have HF := hide (fV_mk (fault_absent H40.out hmany.out HBAD.out (find_hit HX.out hx hab.out (by unfold absentP; simp [hpo]))))
                      have hlk : (Instr.lookup 59 (.map (some mb)) (.int .i64 (-x)) true).run Try.prog wr = .ok (.tuple #[.agg #[.int .i64 p1, .int .i64 p2], .bool false]) wr := by
                        have := hlook
                        rw [hp, hlx, hpo] at this
                        exact this
                      clear hx hlook hp hlx hpo
                      go_wp2_with fail
                      refine bodyPost_ret (v := .tuple #[.int .i64 5, .int .i64 (i : Int), .int .i64 (k : Int)]) (by simp [results, Try.results9, go_sem]) rfl ?_
                      rw [HF.out]
                      exact ⟨rfl, hB.alloc hz _⟩
                    | some q =>
                      have HN := hide (find_next HX.out hx hab.out (show absentP code (x, (i : Int), (k : Int)) = false by unfold absentP; simp [hpo]))
                      have hlk : (Instr.lookup 59 (.map (some mb)) (.int .i64 (-x)) true).run Try.prog wr = .ok (.tuple #[.agg #[.int .i64 p1, .int .i64 p2], .bool true]) wr := by
                        have := hlook
                        rw [hp, hlx, hpo] at this
                        exact this
                      clear hx hlook hp hlx hpo
                      go_wp2_with fail
                      go_roundw
                      case rel => exact ⟨k + 1, by omega, by go_num, HN, hmp.alloc _, hB.alloc hz _⟩
                      case measure => simp [intOf]; omega
                  · have HB : Hid ((posTo code (i + 1) 0).find? (absentP code) = none) := hide (by rw [← posTo_row (k := k) HX.out (by omega)]; exact hab.out)
                    go_wp2_with fail
                    go_roundw
                    case rel => exact ⟨i + 1, by omega, by go_num, HB, hmp, hB⟩
                    case measure => simp [intOf]; omega
              · have HAB : Hid ((posC code).find? (absentP code) = none) := hide (by rw [← posTo_all (show code.length ≤ i by omega)]; exact hab.out)
                clear hab
                go_wp2_with fail
                go_loopw [116] (fun s wr => ∃ i : Nat, i ≤ code.length ∧ s = .int .i64 i ∧ Hid ((posTo code i 0).find? (oddP code) = none) ∧ Mp plE wr mb l ∧ Below w.heap.size w wr) (fun s _ => code.length - (intOf s).toNat)
                case atStart => exact ⟨0, Nat.zero_le _, rfl, hide (by rw [posTo_zero]; rfl), hmp, hB⟩
                case round =>
                  clear hmp hB
                  obtain ⟨i, hi, rfl, hab, hmp, hB⟩ := hrel
                  obtain ⟨wo, rfl⟩ : ∃ wo : World, wo = wr := ⟨_, rfl⟩
                  by_cases hlt : i < code.length
                  · obtain ⟨b, off, B, d, xs, rfl, hb, hx, hce, hd1, hd2, hr⟩ := hc.row hlt
                    have hce1 := (hB.cell (p := ⟨b, off + i, none⟩) hb).trans hce
                    have HX := hide hx
                    have hxl := sumLen_row hx
                    clear hx hd1 hd2
                    go_wp2_with fail
                    go_loopw [123] (fun s wr => ∃ k : Nat, k ≤ xs.length ∧ s = .int .i64 k ∧ Hid ((posTo code i k).find? (oddP code) = none) ∧ Mp plE wr mb l ∧ Below w.heap.size w wr) (fun s _ => xs.length - (intOf s).toNat)
                    case atStart => exact ⟨0, Nat.zero_le _, rfl, hab, hmp, hB⟩
                    case round =>
                      clear hab hmp hce1 hB
                      obtain ⟨k, hk, rfl, hab, hmp, hB⟩ := hrel
                      have hr2 := hr.below hB
                      have hz := hB.size
                      by_cases hkl : k < xs.length
                      · obtain ⟨b2, off2, x, rfl, hb2, hx, hcx⟩ := hr2.at_ hkl
                        obtain ⟨g1, g2⟩ := hgood.out i k xs x HX.out hx
                        have g3 := inB_abs g2
                        have g4 := half_bound (code := code) hsum
                        have g5 : -9223372036854775808 < x := by omega
                        have g6 : x ≤ 9223372036854775807 := by omega
                        clear g1 g2 g3 g4
                        cases ho : oddX code x
                        · have HN := hide (find_next HX.out hx hab.out (show oddP code (x, (i : Int), (k : Int)) = false from ho))
                          clear hx
                          go_wp2_with fail
                          refine (isOdd_any mb l code x _ hmp HL.out hn0 g5 g6).mono ?_
                          rw [ho]
                          rintro e w2 ⟨rfl, hb2⟩
                          have hmp2 := hmp.below hb2
                          have hB2 := hB.trans (hb2.mono hz)
                          go_wp2_with fail
                          go_roundw
                          case rel => exact ⟨k + 1, by omega, by go_num, HN, hmp2, hB2⟩
                          case measure => simp [intOf]; omega
                        · have HF := hide (fV_mk (fault_odd H40.out hmany.out HBAD.out HAB.out (find_hit HX.out hx hab.out (show oddP code (x, (i : Int), (k : Int)) = true from ho))))
                          clear hx
                          go_wp2_with fail
                          refine (isOdd_any mb l code x _ hmp HL.out hn0 g5 g6).mono ?_
                          rw [ho]
                          rintro e w2 ⟨rfl, hb2⟩
                          have hB2 := hB.trans (hb2.mono hz)
                          go_wp2_with fail
                          refine bodyPost_ret (v := .tuple #[.int .i64 6, .int .i64 (i : Int), .int .i64 (k : Int)]) (by simp [results, Try.results9, go_sem]) rfl ?_
                          rw [HF.out]
                          exact ⟨rfl, hB2⟩
                      · have HB : Hid ((posTo code (i + 1) 0).find? (oddP code) = none) := hide (by rw [← posTo_row (k := k) HX.out (by omega)]; exact hab.out)
                        go_wp2_with fail
                        go_roundw
                        case rel => exact ⟨i + 1, by omega, by go_num, HB, hmp, hB⟩
                        case measure => simp [intOf]; omega
                  · have HF := hide (fV_mk (fault_none H40.out hmany.out HBAD.out HAB.out (by rw [← posTo_all (show code.length ≤ i by omega)]; exact hab.out)))
                    go_wp2_with fail
                    refine bodyPost_ret (v := .tuple #[.int .i64 0, .int .i64 0, .int .i64 0]) (by simp [results, Try.results9, go_sem]) rfl ?_
                    rw [HF.out]
                    exact ⟨rfl, hB⟩
end Go.Proofs.Ytnjojnnapdhijaa
