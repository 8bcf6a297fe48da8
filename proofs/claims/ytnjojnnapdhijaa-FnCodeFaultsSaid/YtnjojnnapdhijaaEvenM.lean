/-
  Contracts: hasIndex; the program's codedCode with one index. Conditions: none beyond the lengths.
  Contracts: EvenlySpaced, of the reference and of the program. Conditions: none beyond the lengths.
-/
import Derived.Test.YtnjojnnapdhijaaCodeInM
import Derived.Test.YtnjojnnapdhijaaFaultS
namespace Go.Proofs.Ytnjojnnapdhijaa
open Go.RowKit
set_option linter.unusedVariables false

theorem hasIndex_any (x : Int) (n : Nat) (w : World) (hn : n ≤ 1048576) : Calls Try.prog 104 #[.int .i64 x, .int .i64 (n : Int)] w (fun e w' => e = .returned (.bool (inB x 0 ((n : Int) - 1))) ∧ w = w') := by
  have wl : IntKind.i64.wrap ((n : Int) - 1) = (n : Int) - 1 := by rw [IntKind.wrap_i64]; omega
  go_enter Try.func104, Try.ntmps104
  go_wp2_with (go_at_call 57; refine (inRange_any _ _ _ _).mono ?_; rintro e w' ⟨rfl, rfl⟩)
  go_ret
  exact ⟨rfl, rfl⟩
set_option maxHeartbeats 1000000 in
theorem codedCode_one (A B : Option Addr) (c d T : Nat) (code : List (List Int)) (j : Int) (w : World) (hc : RC w T A code) (hB : RI w B [j]) (hn : code.length + sumLen code ≤ 1048576) :
    Calls Try.prog 60 #[.slice A code.length c, .slice B 1 d] w (RetV w (.int .i64 (curveC code j))) := by
  cases hv : validC code
  · have HV := hide (show curveC code j = 1 by unfold curveC; rw [if_neg (by rw [hv]; simp)])
    go_enter Try.func60, Try.ntmps60
    go_wp2_with fail
    refine (validCode_any _ _ T code _ hc hn).mono ?_
    rw [hv]
    rintro e w1 ⟨rfl, hb⟩
    go_wp2_with fail
    go_ret
    rw [HV.out]
    exact ⟨rfl, hb⟩
  · have HV := hide hv
    have hlen : code.length ≤ 1048576 := by omega
    go_enter Try.func60, Try.ntmps60
    go_wp2_with fail
    refine (validCode_any _ _ T code _ hc hn).mono ?_
    rw [hv]
    rintro e w1 ⟨rfl, hb⟩
    have hB1 := hB.below hb
    clear hv
    go_wp2_with fail
    go_loop [12] (fun i => ∃ k : Nat, k ≤ 1 ∧ i = .int .i64 k ∧ Hid (k = 1 → inB j 0 ((code.length : Int) - 1) = true)) (fun i => 1 - (intOf i).toNat)
    case atStart => exact ⟨0, Nat.zero_le _, rfl, hide (fun e => by cases e)⟩
    case round =>
      obtain ⟨k, hk, rfl, hall⟩ := hrel
      by_cases hlt : k < 1
      · obtain rfl : k = 0 := by omega
        obtain ⟨b, off, x, rfl, hbb, hx, hcc⟩ := hB1.at_ (k := 0) (by simp)
        have hxj : j = x := by simpa using hx
        subst hxj
        have hcc0 : w1.cell? ⟨b, off, none⟩ = some (.int .i64 j) := hcc
        clear hx
        cases hi : inB j 0 ((code.length : Int) - 1)
        · have H2 := hide (show curveC code j = 2 by unfold curveC; rw [if_pos HV.out, if_neg (by rw [hi]; simp)])
          go_wp2_with (go_at_call 104; refine (hasIndex_any _ _ _ hlen).mono ?_; rintro e w' ⟨rfl, rfl⟩)
          go_ret
          rw [H2.out]
          exact ⟨rfl, hb⟩
        · have HI := hide hi
          go_wp2_with (go_at_call 104; refine (hasIndex_any _ _ _ hlen).mono ?_; rintro e w' ⟨rfl, rfl⟩)
          go_round
          case rel => exact ⟨1, by omega, by go_num, by first | exact hide (fun _ => HI.out) | exact hide (fun _ => trivial)⟩
          case measure => simp [intOf]
      · obtain rfl : k = 1 := by omega
        have H0 := hide (show curveC code j = 0 by unfold curveC; rw [if_pos HV.out, if_pos (hall.out rfl)])
        clear hall
        go_wp2_with fail
        go_ret
        rw [H0.out]
        exact ⟨rfl, hb⟩
end Go.Proofs.Ytnjojnnapdhijaa

namespace Go.Proofs.Ytnjojnnapdhijaa
open Go.RowKit
set_option linter.unusedVariables false

/-- the curve has no fault of parity -/
def evenB (code : List (List Int)) (j : Int) : Bool := decide (curveC code j = 0) && !(((code.getD j.toNat []).any fun x => oddX code x))
theorem curveC_zero {code : List (List Int)} {j : Int} (h : curveC code j = 0) : validC code = true ∧ ∃ n : Nat, j = (n : Int) ∧ n < code.length := by
  unfold curveC at h
  split at h
  · rename_i hv
    split at h
    · rename_i hi
      obtain ⟨h1, h2⟩ := inB_true.1 hi
      exact ⟨hv, j.toNat, by omega, by omega⟩
    · cases h
  · cases h
theorem valid_apart {code : List (List Int)} (h : validC code = true) : Apart code := by
  obtain ⟨N, h1, h2, h3, h4⟩ := validC_true h
  exact apart_of_nodup h4.1
theorem valid_elem {code : List (List Int)} (h : validC code = true) {i : Nat} {xs : List Int} (hi : code[i]? = some xs) : ∀ x ∈ xs, x ≠ 0 ∧ -120 ≤ x ∧ x ≤ 120 := fun x hx => by
  obtain ⟨N, h1, h2, h3, h4⟩ := validC_true h
  have := h4.2 x (List.mem_flatten.2 ⟨xs, List.mem_of_getElem? hi, hx⟩)
  omega
theorem even_first {code : List (List Int)} (ha : Apart code) {i : Nat} {xs : List Int} (hi : code[i]? = some xs) : (!(xs.any fun x => oddX code x)) = decide (firstOdd xs < 0) := by
  rcases firstOdd_cases xs with ⟨k, h1, h2, h3, _⟩ | ⟨h1, h2⟩
  · have hk : xs[k]? = some xs[k] := List.getElem?_eq_getElem h2
    have : xs.any (fun x => oddX code x) = true := by
      rw [List.any_eq_true]
      exact ⟨xs[k], List.getElem_mem h2, by rw [oddX_eq ha hi hk]; exact h3⟩
    rw [this, h1, decide_eq_false (by omega)]
    rfl
  · have : xs.any (fun x => oddX code x) = false := by
      rw [List.any_eq_false]
      intro x hx
      obtain ⟨k, hk⟩ := List.mem_iff_getElem?.1 hx
      rw [oddX_eq ha hi hk, h2 k (List.getElem?_eq_some_iff.1 hk).1]
      simp
    rw [this, h1]
    rfl
theorem specEven_any (A : Option Addr) (c T : Nat) (code : List (List Int)) (j : Int) (w : World) (hc : RC w T A code) (hn : code.length + sumLen code ≤ 1048576) :
    Calls Try.prog 14 #[.slice A code.length c, .int .i64 j] w (RetV w (.bool (evenB code j))) := by
  by_cases h0 : curveC code j = 0
  · obtain ⟨hv, n, rfl, hjl⟩ := curveC_zero h0
    have hxs : code[n]? = some code[n] := List.getElem?_eq_getElem hjl
    have HV : Hid (evenB code (n : Int) = decide (firstOdd code[n] < 0)) := hide (by
      unfold evenB
      rw [decide_eq_true h0, Bool.true_and, show (n : Int).toNat = n by omega, getD_row hxs]
      exact even_first (valid_apart hv) hxs)
    have hel := valid_elem hv hxs
    have HB : Hid (∀ x ∈ code[n], -9223372036854775808 < x ∧ x ≤ 9223372036854775807) := hide (fun x hx => by have := hel x hx; omega)
    have HX := hide hxs
    obtain ⟨f, hf⟩ : ∃ f, f = firstOdd code[n] := ⟨_, rfl⟩
    rw [← hf] at HV
    have HF := hide hf
    clear hel hxs hf
    go_enter Try.func14, Try.ntmps14
    go_wp2_with fail
    refine (l15Code_any _ _ T code _ _ hc hn).mono ?_
    rw [h0]
    rintro e w1 ⟨rfl, hb1⟩
    obtain ⟨b, off, B, d, ys, rfl, hb, hy, hce, hd1, hd2, hr⟩ := (hc.below hb1).row hjl
    obtain rfl : ys = code[n] := by have := HX.out; rw [hy] at this; injection this
    have hxl := sumLen_row hy
    have hlt : (n : Int) < (code.length : Int) := by omega
    clear hy h0
    go_wp2_with fail
    refine (l15Odd_any _ _ _ _ hr (by omega) HB.out).mono ?_
    rw [← HF.out]
    rintro e w2 ⟨rfl, hb2⟩
    have hB := hb1.trans (hb2.mono hb1.size)
    go_wp2_with fail
    go_ret
    rw [HV.out]
    exact ⟨rfl, hB⟩
  · have HV : Hid (evenB code j = false) := hide (by unfold evenB; rw [decide_eq_false h0]; rfl)
    obtain ⟨q, hq⟩ : ∃ q, q = curveC code j := ⟨_, rfl⟩
    have hq0 : (q == 0) = false := by rw [hq]; simpa using h0
    clear h0
    go_enter Try.func14, Try.ntmps14
    go_wp2_with fail
    refine (l15Code_any _ _ T code _ _ hc hn).mono ?_
    rw [← hq]
    rintro e w1 ⟨rfl, hb1⟩
    clear hq
    go_wp2_with fail
    go_ret
    rw [HV.out]
    exact ⟨rfl, hb1⟩
/-- the closure -/
theorem evenFn_any (G b : Nat) (l : List (Int × Int × Int)) (code : List (List Int)) (x : Int) (w : World) (hG : Bx w G 59 #[.map (some b)]) (hm : Mp plE w b l) (hl : ∀ x, l.lookup x = placeOf code x) (hn : code.length + sumLen code ≤ 1048576) (h1 : -9223372036854775808 < x) (h2 : x ≤ 9223372036854775807) :
    Calls Try.prog 62 #[.int .i64 x, .pointer (some ⟨G, 0, none⟩)] w (RetV w (.bool (oddX code x))) := by
  have hc := hG.one
  go_enter Try.func62, Try.ntmps62
  go_wp2_with fail
  refine (isOdd_any b l code x _ hm hl hn h1 h2).mono ?_
  rintro e w1 ⟨rfl, hb⟩
  go_wp2_with fail
  go_ret
  exact ⟨rfl, hb⟩
theorem anyX_next {p : Int → Bool} {xs : List Int} {k : Nat} {x : Int} (hx : xs[k]? = some x) (h : (xs.take k).any p = false) (hp : p x = false) : (xs.take (k + 1)).any p = false := by
  rw [List.take_add_one, hx, List.any_append, h]
  simp [hp]
theorem anyX_hit {p : Int → Bool} {xs : List Int} {k : Nat} {x : Int} (hx : xs[k]? = some x) (hp : p x = true) : xs.any p = true := by
  rw [List.any_eq_true]
  exact ⟨x, List.mem_of_getElem? hx, hp⟩
set_option maxHeartbeats 1000000 in
theorem indexOdd_any (G b : Nat) (l : List (Int × Int × Int)) (code : List (List Int)) (A : Option Addr) (c : Nat) (xs : List Int) (w : World) (h : RI w A xs) (hxn : xs.length ≤ 1048576) (hG0 : Bx w G 59 #[.map (some b)]) (hm0 : Mp plE w b l) (hl0 : ∀ x, l.lookup x = placeOf code x) (hn : code.length + sumLen code ≤ 1048576) (hb0 : ∀ x ∈ xs, -9223372036854775808 < x ∧ x ≤ 9223372036854775807) :
    Calls Try.prog 105 #[.slice A xs.length c, .func (.func 62) #[] #[.pointer (some ⟨G, 0, none⟩)]] w fun e w' => ∃ r : Int, e = .returned (.int .i64 r) ∧ (decide (r ≥ 0) = xs.any fun x => oddX code x) ∧ Below w.heap.size w w' := by
  have HB := hide hb0
  have HL := hide hl0
  clear hb0 hl0
  go_enter Try.func105, Try.ntmps105
  go_wp2
  go_loopw [8] (fun i wr => ∃ k : Nat, k ≤ xs.length ∧ i = .int .i64 k ∧ Hid (((xs.take k).any fun x => oddX code x) = false) ∧ Below w.heap.size w wr) (fun i _ => xs.length - (intOf i).toNat)
  case atStart => exact ⟨0, Nat.zero_le _, rfl, hide (by simp), Below.refl _ _⟩
  case round =>
    obtain ⟨k, hk, rfl, hall, hB⟩ := hrel
    have hz := hB.size
    have hG := hG0.below hB
    have hm := hm0.below hB
    by_cases hlt : k < xs.length
    · have hr := h.below hB
      obtain ⟨b2, off, x, rfl, hb, hx, hc⟩ := hr.at_ hlt
      obtain ⟨g5, g6⟩ := HB.out x (List.mem_of_getElem? hx)
      have HX := hide hx
      clear hx
      cases hp : oddX code x
      · have HA := hide (anyX_next HX.out hall.out hp)
        go_wp2_with fail
        refine (evenFn_any G b l code x _ hG hm HL.out hn g5 g6).mono ?_
        rw [hp]
        rintro e w2 ⟨rfl, hb2⟩
        have hB2 := hB.trans (hb2.mono hz)
        clear hp
        go_wp2_with fail
        go_roundw
        case rel => exact ⟨k + 1, by omega, by go_num, HA, hB2⟩
        case measure => simp [intOf]; omega
      · have HV := hide (anyX_hit (p := fun x => oddX code x) HX.out hp)
        go_wp2_with fail
        refine (evenFn_any G b l code x _ hG hm HL.out hn g5 g6).mono ?_
        rw [hp]
        rintro e w2 ⟨rfl, hb2⟩
        have hB2 := hB.trans (hb2.mono hz)
        clear hp
        go_wp2_with fail
        go_ret
        refine ⟨(k : Int), rfl, ?_, hB2⟩
        rw [HV.out, decide_eq_true (by omega)]
    · have hall' := hall.out
      rw [show k = xs.length by omega, List.take_of_length_le (Nat.le_refl _)] at hall'
      have HV := hide hall'
      clear hall hall'
      go_wp2_with fail
      go_ret
      refine ⟨-1, rfl, ?_, hB⟩
      rw [HV.out]
      rfl
theorem containsOdd_any (G b : Nat) (l : List (Int × Int × Int)) (code : List (List Int)) (A : Option Addr) (c : Nat) (xs : List Int) (w : World) (h : RI w A xs) (hxn : xs.length ≤ 1048576) (hG0 : Bx w G 59 #[.map (some b)]) (hm0 : Mp plE w b l) (hl0 : ∀ x, l.lookup x = placeOf code x) (hn : code.length + sumLen code ≤ 1048576) (hb0 : ∀ x ∈ xs, -9223372036854775808 < x ∧ x ≤ 9223372036854775807) :
    Calls Try.prog 61 #[.slice A xs.length c, .func (.func 62) #[] #[.pointer (some ⟨G, 0, none⟩)]] w (RetV w (.bool (xs.any fun x => oddX code x))) := by
  go_enter Try.func61, Try.ntmps61
  go_wp2_with fail
  refine (indexOdd_any G b l code A c xs _ h hxn hG0 hm0 hl0 hn hb0).mono ?_
  rintro e w2 ⟨r, rfl, h2, hb⟩
  have H2 := hide h2
  clear h2
  go_wp2_with fail
  go_ret
  exact ⟨congrArg (fun x => Ending.returned (Value.bool x)) H2.out, hb⟩
theorem implEven_any (A : Option Addr) (c T : Nat) (code : List (List Int)) (j : Int) (w : World) (hc : RC w T A code) (hn : code.length + sumLen code ≤ 1048576) :
    Calls Try.prog 13 #[.slice A code.length c, .int .i64 j] w (RetV w (.bool (evenB code j))) := by
  have hr1 : RI (w.alloc (.cells #[.int .i64 j] 2)) (some ⟨w.heap.size, 0, none⟩) [j] := (OwnI.new (base := 0) w [j] #[.int .i64 j] rfl (Nat.zero_le _) (by simp [maxLen])).rd
  have ha : Below w.heap.size w (w.alloc (.cells #[.int .i64 j] 2)) := (Below.refl _ _).alloc (Nat.le_refl _) _
  have hca := hc.below ha
  by_cases h0 : curveC code j = 0
  · obtain ⟨hv, n, rfl, hjl⟩ := curveC_zero h0
    have hxs : code[n]? = some code[n] := List.getElem?_eq_getElem hjl
    obtain ⟨v, hvv⟩ : ∃ v, v = (code[n].any fun x => oddX code x) := ⟨_, rfl⟩
    have HV : Hid (evenB code (n : Int) = !v) := hide (by
      unfold evenB
      rw [decide_eq_true h0, Bool.true_and, show (n : Int).toNat = n by omega, getD_row hxs, hvv])
    have hel := valid_elem hv hxs
    have HB : Hid (∀ x ∈ code[n], -9223372036854775808 < x ∧ x ≤ 9223372036854775807) := hide (fun x hx => by have := hel x hx; omega)
    have HX := hide hxs
    have HVV := hide hvv
    clear hel hxs hvv
    go_enter Try.func13, Try.ntmps13
    go_wp2_with fail
    refine (codedCode_one _ _ _ _ T code _ _ hca hr1 hn).mono ?_
    rw [h0]
    rintro e w1 ⟨rfl, hb1⟩
    have hB1 := ha.trans (hb1.mono ha.size)
    have hc1 := hc.below hB1
    clear h0
    go_wp2_with fail
    refine (places_any _ _ T code _ hc1 hn).mono ?_
    rintro e w2 ⟨mb, l, rfl, hbs, hmp, HL, hb2⟩
    have hB2 := hB1.trans (hb2.mono hB1.size)
    obtain ⟨b, off, B, d, ys, rfl, hb, hy, hce, hd1, hd2, hr⟩ := (hc.below hB2).row hjl
    obtain rfl : ys = code[n] := by have := HX.out; rw [hy] at this; injection this
    have hxl := sumLen_row hy
    have hlt : (n : Int) < (code.length : Int) := by omega
    have hG : Bx (w2.alloc (.cells #[.map (some mb)] 59)) w2.heap.size 59 #[.map (some mb)] := Bx.new _ _ _
    have hB3 := hB2.alloc hB2.size (.cells #[.map (some mb)] 59)
    clear hy
    go_wp2_with fail
    refine (containsOdd_any w2.heap.size mb l code _ _ _ _ (hr.alloc _) (by omega) hG (hmp.alloc _) HL.out hn HB.out).mono ?_
    rw [← HVV.out]
    rintro e w3 ⟨rfl, hb3⟩
    have hB4 := hB3.trans (hb3.mono hB3.size)
    go_wp2_with fail
    go_ret
    rw [HV.out]
    exact ⟨rfl, hB4⟩
  · have HV : Hid (evenB code j = false) := hide (by unfold evenB; rw [decide_eq_false h0]; rfl)
    obtain ⟨q, hq⟩ : ∃ q, q = curveC code j := ⟨_, rfl⟩
    have hq0 : (q != 0) = true := by rw [hq]; simpa using h0
    clear h0
    go_enter Try.func13, Try.ntmps13
    go_wp2_with fail
    refine (codedCode_one _ _ _ _ T code _ _ hca hr1 hn).mono ?_
    rw [← hq]
    rintro e w1 ⟨rfl, hb1⟩
    have hB1 := ha.trans (hb1.mono ha.size)
    clear hq
    go_wp2_with fail
    go_ret
    rw [HV.out]
    exact ⟨rfl, hB1⟩
end Go.Proofs.Ytnjojnnapdhijaa
