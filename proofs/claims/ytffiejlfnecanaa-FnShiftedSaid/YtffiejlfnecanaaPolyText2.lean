/-
  Contracts: PolyText, of the reference and of the program. Conditions: none beyond the lengths.
-/
import Derived.Test.YtffiejlfnecanaaPolyText
import Derived.Deep.DeepCutAuto
import Derived.Deep.RegionHeld3
namespace Go.Proofs.Ytffiejlfnecanaa
open Go.RowKit
set_option linter.unusedVariables false

theorem str_ne_nil (W : World) (t : TypeId) (P : Program) : (binOp .neq t (str []) (.string ⟨#[]⟩)).run P W = .ok (.bool false) W := by
  unfold str
  rw [binOp_string_neq, show ((⟨([] : List UInt8).toArray⟩ : ByteArray)).toList = [] from ByteArray.toList_mk []]
  rfl
theorem str_ne_yes (W : World) (t : TypeId) (P : Program) {l : List UInt8} (h : l ≠ []) : (binOp .neq t (str l) (.string ⟨#[]⟩)).run P W = .ok (.bool true) W := by
  unfold str
  rw [binOp_string_neq]
  have : ((⟨l.toArray⟩ : ByteArray).toList == (⟨#[]⟩ : ByteArray).toList) = false := by
    rw [ByteArray.toList_mk, show (⟨#[]⟩ : ByteArray).toList = [] from ByteArray.toList_mk []]
    cases l with
    | nil => exact absurd rfl h
    | cons a r => rfl
  rw [this]
  rfl
theorem vldP_some {low : Int} {xs : List Int} (h : vldP low xs = true) (hn : xs.length ≠ 0) : polyOut xs low ≠ [] := by
  apply polyOut_ne
  have hx : xs.getD 0 0 ≠ 0 := by
    unfold vldP at h
    rw [if_neg hn] at h
    simp only [Bool.and_eq_true] at h
    simpa using h.2.2.2.1
  refine ⟨xs.getD 0 0, ?_, hx⟩
  cases xs with
  | nil => exact absurd rfl hn
  | cons a r => simp

theorem guard_str (W : World) (x y : Operand) (l : List UInt8) : (eqGuard .eql 9 x y (str l) (.string ⟨#[]⟩)).run Try.prog W = .ok () W := by
  unfold str
  simp [eqGuard, go_sem]
theorem guard_str' (W : World) (x y : Operand) (l : List UInt8) : (eqGuard .neq 9 x y (str l) (.string ⟨#[]⟩)).run Try.prog W = .ok () W := by
  unfold str
  simp [eqGuard, go_sem]

set_option maxRecDepth 100000 in
set_option maxHeartbeats 8000000 in
theorem implPolyText_any (low : Int) (A : Option Addr) (c : Nat) (xs : List Int) (w : World) (hxs : RI w A xs) (hn : xs.length ≤ 1048576) :
    Calls Try.prog 18 #[.agg #[.int .i64 low, .slice A xs.length c]] w (RetV w (str (polyT low xs))) := by
  have q0 := Bx.new w 26 #[.int .i64 low, .slice A xs.length c]
  have hB0 : Below w.heap.size w (w.alloc (.cells #[.int .i64 low, .slice A xs.length c] 26)) := (Below.refl _ _).alloc (Nat.le_refl _) _
  have hr0 := hxs.alloc (.cells #[.int .i64 low, .slice A xs.length c] 26)
  obtain ⟨pa, pb⟩ := q0.two
  cases hv : vldP low xs
  · have HV := hide (show polyT low xs = [] by unfold polyT; rw [if_neg (by rw [hv]; simp)])
    go_enter Try.func18, Try.ntmps18
    go_wp2_with fail
    refine (implValidPoly_any low A c xs _ hr0 hn).mono ?_
    rintro e w' ⟨rfl, hb⟩
    rw [hv]
    go_wp2_with fail
    go_ret
    rw [HV.out]
    exact ⟨rfl, hB0.trans (hb.mono hB0.size)⟩
  · obtain ⟨lo0, lo1, hlen, hcoef⟩ := vldP_bounds hv
    by_cases hz0 : xs.length = 0
    · have HV := hide (show polyT low xs = [48] by unfold polyT; rw [if_pos hv, if_pos hz0])
      have hz1 : ((xs.length : Int) == 0) = true := by simp [hz0]
      clear hz0
      go_enter Try.func18, Try.ntmps18
      go_wp2_with fail
      refine (implValidPoly_any low A c xs _ hr0 hn).mono ?_
      rintro e w' ⟨rfl, hb⟩
      rw [hv]
      have q1 := q0.below hb
      obtain ⟨ra, rb⟩ := q1.two
      go_wp2_with fail
      go_ret
      rw [HV.out]
      exact ⟨rfl, hB0.trans (hb.mono hB0.size)⟩
    · have hz1 : ((xs.length : Int) == 0) = false := by simpa using hz0
      have HC := hide hcoef
      have HV : Hid (polyT low xs = polyOut xs low) := hide (by unfold polyT; rw [if_pos hv, if_neg hz0])
      have HS : Hid (xs.length ≠ 0 → polyOut xs low ≠ []) := hide (fun h => vldP_some hv h)
      have HL : Hid (∀ k : Nat, (polyOut (xs.drop k) (low + k)).length ≤ 18000) := hide (fun k => by
        by_cases hk : k ≤ xs.length
        · have := polyOut_len (xs.drop k) (low + k) (fun x hx => hcoef x (List.mem_of_mem_drop hx)) (by omega) (by rw [List.length_drop]; omega)
          rw [List.length_drop] at this
          omega
        · rw [List.drop_of_length_le (by omega)]
          simp [polyOut])
      clear hz0
      clear hcoef
      go_enter Try.func18, Try.ntmps18
      go_wp2_with fail
      refine (implValidPoly_any low A c xs _ hr0 hn).mono ?_
      rintro e w' ⟨rfl, hb⟩
      rw [hv]
      clear hv
      have q1 := q0.below hb; have hr1 := hr0.below hb; have hB1 := hB0.trans (hb.mono hB0.size)
      obtain ⟨ra, rb⟩ := q1.two
      go_wp2_with fail
      go_loopw [3, 4] (fun o i wr => ∃ (k : Nat) (zs : List UInt8), k ≤ xs.length ∧ i = .int .i64 ((k : Int) - 1) ∧ o = str zs ∧ Hid (zs = polyOut (xs.drop k) (low + k)) ∧ Below w'.heap.size w' wr) (fun _ i _ => (intOf i + 1).toNat)
      case atStart => exact ⟨xs.length, [], Nat.le_refl _, by go_num, rfl, hide (by rw [List.drop_length]; rfl), Below.refl _ _⟩
      case round =>
        obtain ⟨k, zs, hk, rfl, rfl, hzs, hC⟩ := hrel
        have q2 := q1.below hC; have hr2 := hr1.below hC
        have hB2 := hB1.trans (hC.mono hB1.size)
        obtain ⟨sa, sb⟩ := q2.two
        have hb2 := q2.lt
        have hB2C := hC
        clear q1 q0 hr1 hr0 hB0 pa pb ra rb hC hB1 hxs hb
        have hG1 := fun (W : World) (a b : Operand) => guard_str W a b zs
        have hG2 := fun (W : World) (a b : Operand) => guard_str' W a b zs
        have hzl := HL.out k
        rw [← hzs.out] at hzl
        cases k with
        | zero =>
          have hz' := hzs.out
          have hz2 : zs = polyOut xs low := by rw [hz']; simp
          have hi : ¬ ((0 : Int) ≤ ((0 : Nat) : Int) - 1) := by omega
          have HV2 : Hid (polyT low xs = zs) := hide (by rw [HV.out, hz2])
          clear hz' hz2
          go_wp2_with fail
          go_ret
          rw [HV2.out]
          exact ⟨rfl, hB2⟩
        | succ k =>
          obtain ⟨b, off, x, rfl, hb, hx, hc⟩ := hr2.at_ (k := k) (by omega)
          have hi : (((k + 1 : Nat) : Int) - 1) = (k : Int) := by omega
          rw [hi]
          have hk0 : (0 : Int) ≤ (k : Int) := by omega
          have hkl : (k : Int) < (xs.length : Int) := by omega
          have hxb := HC.out x (List.mem_of_getElem? hx)
          have HD := hide (polyOut_drop (low := low) hx)
          have wn : IntKind.i64.wrap (-x) = -x := by rw [IntKind.wrap_i64]; omega
          have wl : IntKind.i64.wrap (low + (k : Int)) = low + (k : Int) := by rw [IntKind.wrap_i64]; omega
          have ip : I64 (low + (k : Int)) := ⟨by omega, by omega⟩
          clear hx
          by_cases hx0 : x = 0
          · have t0 : (x == 0) = true := by simp [hx0]
            have HN : Hid (zs = polyOut (xs.drop k) (low + k)) := hide (by rw [HD.out, hzs.out]; unfold polyStep; rw [if_pos hx0])
            clear hx0 hzs
            go_wp2_with fail
            go_roundw
            case rel => exact ⟨k, zs, by omega, by go_num, rfl, HN, hB2C⟩
            case measure => simp [intOf]
          · have t0 : (x == 0) = false := by simp [hx0]
            obtain ⟨N, hN⟩ : ∃ N, N = if x < 0 then -x else x := ⟨_, rfl⟩
            have iN : I64 N := by rw [hN]; split <;> exact ⟨by omega, by omega⟩
            have ht := termL_len iN ip
            have HN0 : Hid (polyOut (xs.drop k) (low + k) = zs ++ signL x zs ++ termL N (low + k)) := hide (by rw [HD.out, ← hzs.out, hN]; unfold polyStep; rw [if_neg hx0])
            have HNN := hide hN
            clear hx0 hzs hN
            by_cases hx1 : x < 0
            · by_cases he : zs = []
              · have hq : ∀ W : World, (binOp .eql 9 (str zs) (.string ⟨#[]⟩)).run Try.prog W = .ok (.bool true) W := fun W => by rw [he]; exact str_eq_nil W _ _
                have hq2 : ∀ W : World, (binOp .neq 9 (str zs) (.string ⟨#[]⟩)).run Try.prog W = .ok (.bool false) W := fun W => by rw [he]; exact str_ne_nil W _ _
                have HN : Hid ([45] ++ termL N (low + k) = polyOut (xs.drop k) (low + k)) := hide (by rw [HN0.out, he]; unfold signL; rw [if_pos hx1, if_pos rfl]; rfl)
                have ha : ∀ W : World, (binOp .add 9 (.string ⟨#[45]⟩) (str (termL N (low + k)))).run Try.prog W = .ok (str (polyOut (xs.drop k) (low + k))) W := fun W => by rw [← HN.out]; exact str_add W _ [45] _ (by simp; omega)
                have he' := hide he
                clear he
                go_wp2_with fail
                refine (term_any x N (low + (k : Int)) _ HNN.out ⟨by omega, by omega⟩ ip).mono ?_
                rintro e wx ⟨rfl, CX⟩
                go_wp2_with fail
                go_roundw
                case rel => exact ⟨k, _, by omega, by go_num, rfl, hide rfl, hB2C.trans (CX.mono (hB2C.size))⟩
                case measure => simp [intOf]
              · have hq : ∀ W : World, (binOp .eql 9 (str zs) (.string ⟨#[]⟩)).run Try.prog W = .ok (.bool false) W := fun W => str_eq_no W _ _ he
                have hq2 : ∀ W : World, (binOp .neq 9 (str zs) (.string ⟨#[]⟩)).run Try.prog W = .ok (.bool true) W := fun W => str_ne_yes W _ _ he
                obtain ⟨s1, hs1⟩ : ∃ s1, s1 = zs ++ [32, 45, 32] := ⟨_, rfl⟩
                have l1 : s1.length ≤ 18003 := by rw [hs1, List.length_append, List.length_cons, List.length_cons, List.length_singleton]; omega
                have HN : Hid (s1 ++ termL N (low + k) = polyOut (xs.drop k) (low + k)) := hide (by rw [HN0.out, hs1]; unfold signL; rw [if_pos hx1, if_neg he])
                have ha0 : ∀ W : World, (binOp .add 9 (str zs) (.string ⟨#[32, 45, 32]⟩)).run Try.prog W = .ok (str s1) W := fun W => by rw [hs1]; exact str_add W _ _ [32, 45, 32] (by simp; omega)
                have ha : ∀ W : World, (binOp .add 9 (str s1) (str (termL N (low + k)))).run Try.prog W = .ok (str (polyOut (xs.drop k) (low + k))) W := fun W => by rw [← HN.out]; exact str_add W _ _ _ (by omega)
                clear hs1
                have he' := hide he
                clear he
                go_wp2_with fail
                refine (term_any x N (low + (k : Int)) _ HNN.out ⟨by omega, by omega⟩ ip).mono ?_
                rintro e wx ⟨rfl, CX⟩
                go_wp2_with fail
                go_roundw
                case rel => exact ⟨k, _, by omega, by go_num, rfl, hide rfl, hB2C.trans (CX.mono (hB2C.size))⟩
                case measure => simp [intOf]
            · by_cases he : zs = []
              · have hq : ∀ W : World, (binOp .eql 9 (str zs) (.string ⟨#[]⟩)).run Try.prog W = .ok (.bool true) W := fun W => by rw [he]; exact str_eq_nil W _ _
                have hq2 : ∀ W : World, (binOp .neq 9 (str zs) (.string ⟨#[]⟩)).run Try.prog W = .ok (.bool false) W := fun W => by rw [he]; exact str_ne_nil W _ _
                have HN : Hid (zs ++ termL N (low + k) = polyOut (xs.drop k) (low + k)) := hide (by rw [HN0.out]; unfold signL; rw [if_neg hx1, if_pos he, List.append_nil])
                have ha : ∀ W : World, (binOp .add 9 (str zs) (str (termL N (low + k)))).run Try.prog W = .ok (str (polyOut (xs.drop k) (low + k))) W := fun W => by rw [← HN.out]; exact str_add W _ _ _ (by omega)
                have he' := hide he
                clear he
                go_wp2_with fail
                refine (term_any x N (low + (k : Int)) _ HNN.out ⟨by omega, by omega⟩ ip).mono ?_
                rintro e wx ⟨rfl, CX⟩
                go_wp2_with fail
                go_roundw
                case rel => exact ⟨k, _, by omega, by go_num, rfl, hide rfl, hB2C.trans (CX.mono (hB2C.size))⟩
                case measure => simp [intOf]
              · have hq : ∀ W : World, (binOp .eql 9 (str zs) (.string ⟨#[]⟩)).run Try.prog W = .ok (.bool false) W := fun W => str_eq_no W _ _ he
                have hq2 : ∀ W : World, (binOp .neq 9 (str zs) (.string ⟨#[]⟩)).run Try.prog W = .ok (.bool true) W := fun W => str_ne_yes W _ _ he
                obtain ⟨s1, hs1⟩ : ∃ s1, s1 = zs ++ [32, 43, 32] := ⟨_, rfl⟩
                have l1 : s1.length ≤ 18003 := by rw [hs1, List.length_append, List.length_cons, List.length_cons, List.length_singleton]; omega
                have HN : Hid (s1 ++ termL N (low + k) = polyOut (xs.drop k) (low + k)) := hide (by rw [HN0.out, hs1]; unfold signL; rw [if_neg hx1, if_neg he])
                have ha0 : ∀ W : World, (binOp .add 9 (str zs) (.string ⟨#[32, 43, 32]⟩)).run Try.prog W = .ok (str s1) W := fun W => by rw [hs1]; exact str_add W _ _ [32, 43, 32] (by simp; omega)
                have ha : ∀ W : World, (binOp .add 9 (str s1) (str (termL N (low + k)))).run Try.prog W = .ok (str (polyOut (xs.drop k) (low + k))) W := fun W => by rw [← HN.out]; exact str_add W _ _ _ (by omega)
                clear hs1
                have he' := hide he
                clear he
                go_wp2_with fail
                refine (term_any x N (low + (k : Int)) _ HNN.out ⟨by omega, by omega⟩ ip).mono ?_
                rintro e wx ⟨rfl, CX⟩
                go_wp2_with fail
                go_roundw
                case rel => exact ⟨k, _, by omega, by go_num, rfl, hide rfl, hB2C.trans (CX.mono (hB2C.size))⟩
                case measure => simp [intOf]
end Go.Proofs.Ytffiejlfnecanaa
