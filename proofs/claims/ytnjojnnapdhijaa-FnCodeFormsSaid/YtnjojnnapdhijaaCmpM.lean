/-
  Contracts: hasIndex; the program's codedCode with one index. Conditions: none beyond the lengths.
  Contracts: slices.Index and slices.Contains at []int64. Conditions: none beyond the lengths.
  Plain lemmas: the order of lists of numbers; the least of some lists. Conditions: none; nothing of the program is named here.
  Contracts: cmp.Compare, slices.Compare, l06Numbers at integers. Conditions: none beyond the lengths.
-/
import Derived.Test.YtnjojnnapdhijaaDrawDM
import Derived.Test.YtnjojnnapdhijaaMem
import Derived.Test.YtnjojnnapdhijaaCode1
import Derived.BigQuiet
namespace Go.Proofs.Ytnjojnnapdhijaa
open Go.RowKit
set_option linter.unusedVariables false

theorem hasIndex_any (x : Int) (n : Nat) (w : World) (hn : n ≤ 1048576) : Calls Try.prog 104 #[.int .i64 x, .int .i64 (n : Int)] w (fun e w' => e = .returned (.bool (inB x 0 ((n : Int) - 1))) ∧ w = w') := by
  have wl : IntKind.i64.wrap ((n : Int) - 1) = (n : Int) - 1 := by rw [IntKind.wrap_i64]; omega
  go_enter Try.func104, Try.ntmps104
  go_wp2_with (go_at_call 57; refine (inRange_any _ _ _ _).mono ?_; rintro e w' ⟨rfl, rfl⟩)
  go_ret
  exact ⟨rfl, rfl⟩
set_option maxHeartbeats 1000000 in
theorem codedCode_one (A B : Option Addr) (c d T : Nat) (code : List (List Int)) (j : Int) (w : World) (hc : RC w T A code) (hB : RI w B [j]) (hn : code.length + sumLen code ≤ 1048576) :
    Calls Try.prog 60 #[.slice A code.length c, .slice B 1 d] w (RetV w (.int .i64 (curveC code j))) := by
  cases hv : validC code
  · have HV := hide (show curveC code j = 1 by unfold curveC; rw [if_neg (by rw [hv]; simp)])
    go_enter Try.func60, Try.ntmps60
    go_wp2_with fail
    refine (validCode_any _ _ T code _ hc hn).mono ?_
    rw [hv]
    rintro e w1 ⟨rfl, hb⟩
    go_wp2_with fail
    go_ret
    rw [HV.out]
    exact ⟨rfl, hb⟩
  · have HV := hide hv
    have hlen : code.length ≤ 1048576 := by omega
    go_enter Try.func60, Try.ntmps60
    go_wp2_with fail
    refine (validCode_any _ _ T code _ hc hn).mono ?_
    rw [hv]
    rintro e w1 ⟨rfl, hb⟩
    have hB1 := hB.below hb
    clear hv
    go_wp2_with fail
    go_loop [12] (fun i => ∃ k : Nat, k ≤ 1 ∧ i = .int .i64 k ∧ Hid (k = 1 → inB j 0 ((code.length : Int) - 1) = true)) (fun i => 1 - (intOf i).toNat)
    case atStart => exact ⟨0, Nat.zero_le _, rfl, hide (fun e => by cases e)⟩
    case round =>
      obtain ⟨k, hk, rfl, hall⟩ := hrel
      by_cases hlt : k < 1
      · obtain rfl : k = 0 := by omega
        obtain ⟨b, off, x, rfl, hbb, hx, hcc⟩ := hB1.at_ (k := 0) (by simp)
        have hxj : j = x := by simpa using hx
        subst hxj
        have hcc0 : w1.cell? ⟨b, off, none⟩ = some (.int .i64 j) := hcc
        clear hx
        cases hi : inB j 0 ((code.length : Int) - 1)
        · have H2 := hide (show curveC code j = 2 by unfold curveC; rw [if_pos HV.out, if_neg (by rw [hi]; simp)])
          go_wp2_with (go_at_call 104; refine (hasIndex_any _ _ _ hlen).mono ?_; rintro e w' ⟨rfl, rfl⟩)
          go_ret
          rw [H2.out]
          exact ⟨rfl, hb⟩
        · have HI := hide hi
          go_wp2_with (go_at_call 104; refine (hasIndex_any _ _ _ hlen).mono ?_; rintro e w' ⟨rfl, rfl⟩)
          go_round
          case rel => exact ⟨1, by omega, by go_num, by first | exact hide (fun _ => HI.out) | exact hide (fun _ => trivial)⟩
          case measure => simp [intOf]
      · obtain rfl : k = 1 := by omega
        have H0 := hide (show curveC code j = 0 by unfold curveC; rw [if_pos HV.out, if_pos (hall.out rfl)])
        clear hall
        go_wp2_with fail
        go_ret
        rw [H0.out]
        exact ⟨rfl, hb⟩
end Go.Proofs.Ytnjojnnapdhijaa

namespace Go.Proofs.Ytnjojnnapdhijaa
open Go.RowKit
set_option linter.unusedVariables false

set_option maxHeartbeats 1000000 in
theorem slIndex_any (A : Option Addr) (c : Nat) (xs : List Int) (n : Int) (w : World) (h : RI w A xs) (hn : xs.length ≤ 1048576) :
    Calls Try.prog 136 #[.slice A xs.length c, .int .i64 n] w (fun e w' => (∃ k : Int, e = .returned (.int .i64 k) ∧ decide (0 ≤ k) = hasB xs n) ∧ w = w') := by
  go_enter Try.func136, Try.ntmps136
  go_wp2
  go_loop [8] (fun i => ∃ k : Nat, k ≤ xs.length ∧ i = .int .i64 k ∧ Hid (hasB (xs.take k) n = false)) (fun i => xs.length - (intOf i).toNat)
  case atStart => exact ⟨0, Nat.zero_le _, rfl, hide rfl⟩
  case round =>
    obtain ⟨k, hk, rfl, hall⟩ := hrel
    by_cases hlt : k < xs.length
    · obtain ⟨b, off, x, rfl, hb, hx, hc⟩ := h.at_ hlt
      cases hp : (n == x)
      · have HA := hide (any_nextH hx hall.out (by rw [beq_eq_false_iff_ne] at *; exact fun e => hp e.symm))
        go_wp2_with fail
        go_round
        case rel => exact ⟨k + 1, by omega, by go_num, HA⟩
        case measure => simp [intOf]; omega
      · have HV := hide (any_hitH (n := n) hx (by rw [beq_iff_eq] at *; exact hp.symm))
        go_wp2_with fail
        go_ret
        refine ⟨⟨k, rfl, ?_⟩, rfl⟩
        rw [HV.out, decide_eq_true (by omega)]
    · have hall' := hall.out
      rw [List.take_of_length_le (by omega)] at hall'
      have HV := hide hall'
      clear hall hall'
      go_wp2_with fail
      go_ret
      refine ⟨⟨-1, rfl, ?_⟩, rfl⟩
      rw [HV.out]
      rfl
theorem slContains_any (A : Option Addr) (c : Nat) (xs : List Int) (n : Int) (w : World) (h : RI w A xs) (hn : xs.length ≤ 1048576) :
    Calls Try.prog 126 #[.slice A xs.length c, .int .i64 n] w (fun e w' => e = .returned (.bool (hasB xs n)) ∧ w = w') := by
  go_enter Try.func126, Try.ntmps126
  go_wp2_with fail
  refine (slIndex_any _ _ xs n _ h hn).mono ?_
  rintro e w1 ⟨⟨k, rfl, hk⟩, rfl⟩
  have HK := hide hk
  clear hk
  go_wp2_with fail
  go_ret
  rw [← HK.out]
  first
    | exact ⟨rfl, rfl⟩
    | (refine ⟨?_, rfl⟩; simp)
end Go.Proofs.Ytnjojnnapdhijaa

namespace Go.Proofs.Ytnjojnnapdhijaa
set_option linter.unusedVariables false

/-- below, equal or above, number by number -/
def cmpL : List Int → List Int → Int
  | [], [] => 0
  | [], _ :: _ => -1
  | _ :: _, [] => 1
  | a :: s, b :: t => if a < b then -1 else if b < a then 1 else cmpL s t
theorem cmpL_self : ∀ s, cmpL s s = 0
  | [] => rfl
  | a :: s => by rw [cmpL, if_neg (by omega), if_neg (by omega)]; exact cmpL_self s
theorem cmpL_eq : ∀ (s t : List Int), cmpL s t = 0 → s = t
  | [], [], _ => rfl
  | [], _ :: _, h => by cases h
  | _ :: _, [], h => by cases h
  | a :: s, b :: t, h => by
    rw [cmpL] at h
    split at h
    · cases h
    · split at h
      · cases h
      · rw [cmpL_eq s t h, show a = b by omega]
theorem cmpL_neg : ∀ (s t : List Int), cmpL t s = -cmpL s t
  | [], [] => rfl
  | [], _ :: _ => rfl
  | _ :: _, [] => rfl
  | a :: s, b :: t => by
    have := cmpL_neg s t
    rw [cmpL, cmpL]
    by_cases h1 : a < b
    · rw [if_neg (show ¬ b < a by omega), if_pos h1, if_pos h1]; rfl
    · by_cases h2 : b < a
      · rw [if_pos h2, if_neg h1, if_pos h2]
      · rw [if_neg h2, if_neg h1, if_neg h1, if_neg h2]; exact this
theorem cmpL_three : ∀ (s t : List Int), cmpL s t = -1 ∨ cmpL s t = 0 ∨ cmpL s t = 1
  | [], [] => .inr (.inl rfl)
  | [], _ :: _ => .inl rfl
  | _ :: _, [] => .inr (.inr rfl)
  | a :: s, b :: t => by
    rw [cmpL]
    split
    · exact .inl rfl
    · split
      · exact .inr (.inr rfl)
      · exact cmpL_three s t
theorem cmpL_trans : ∀ (s t u : List Int), cmpL s t ≤ 0 → cmpL t u ≤ 0 → cmpL s u ≤ 0
  | [], [], u, _, h => h
  | [], _ :: _, [], _, _ => by decide
  | [], _ :: _, _ :: _, _, _ => by simp [cmpL]
  | _ :: _, [], u, h, _ => by simp [cmpL] at h
  | _ :: _, _ :: _, [], _, h => by simp [cmpL] at h
  | a :: s, b :: t, c :: u, h1, h2 => by
    rw [cmpL] at h1 h2 ⊢
    by_cases ab : a < b
    · by_cases cb : c < b
      · rw [if_neg (by omega), if_pos cb] at h2; omega
      · rw [if_pos (by omega)]; omega
    · rw [if_neg ab] at h1
      by_cases ba : b < a
      · rw [if_pos ba] at h1; omega
      · rw [if_neg ba] at h1
        by_cases bc : b < c
        · rw [if_pos (by omega)]; omega
        · rw [if_neg bc] at h2
          by_cases cb : c < b
          · rw [if_pos cb] at h2; omega
          · rw [if_neg cb] at h2
            rw [if_neg (by omega), if_neg (by omega)]
            exact cmpL_trans s t u h1 h2
theorem cmpL_drop : ∀ (k : Nat) (s t : List Int), k ≤ s.length → k ≤ t.length → s.take k = t.take k → cmpL s t = cmpL (s.drop k) (t.drop k)
  | 0, s, t, _, _, _ => rfl
  | k + 1, [], t, h, _, _ => by simp at h
  | k + 1, _ :: _, [], _, h, _ => by simp at h
  | k + 1, a :: s, b :: t, h1, h2, h => by
    rw [List.take_succ_cons, List.take_succ_cons] at h
    injection h with e1 e2
    rw [cmpL, if_neg (by omega), if_neg (by omega), List.drop_succ_cons, List.drop_succ_cons]
    exact cmpL_drop k s t (by simpa using h1) (by simpa using h2) e2
theorem cmpL_below {s t : List Int} {k : Nat} {a b : Int} (h : s.take k = t.take k) (hs : s[k]? = some a) (ht : t[k]? = some b) (hab : a < b) : cmpL s t = -1 := by
  have h1 := (List.getElem?_eq_some_iff.1 hs).1
  have h2 := (List.getElem?_eq_some_iff.1 ht).1
  rw [List.getElem?_eq_getElem h1] at hs
  rw [List.getElem?_eq_getElem h2] at ht
  injection hs with hs
  injection ht with ht
  rw [cmpL_drop k s t (by omega) (by omega) h, List.drop_eq_getElem_cons h1, List.drop_eq_getElem_cons h2, hs, ht, cmpL, if_pos hab]
theorem cmpL_above {s t : List Int} {k : Nat} {a b : Int} (h : s.take k = t.take k) (hs : s[k]? = some a) (ht : t[k]? = some b) (hab : b < a) : cmpL s t = 1 := by
  rw [cmpL_neg t s, cmpL_below h.symm ht hs hab]; rfl
theorem cmpL_end {s t : List Int} {k : Nat} (h : s.take k = t.take k) (hs : s.length = k) (ht : k ≤ t.length) : cmpL s t = if k < t.length then -1 else 0 := by
  rw [cmpL_drop k s t (by omega) ht h, List.drop_of_length_le (by omega)]
  split
  · rename_i hlt
    rw [List.drop_eq_getElem_cons hlt]
    rfl
  · rw [List.drop_of_length_le (by omega)]
    rfl
theorem cmpL_end' {s t : List Int} {k : Nat} (h : s.take k = t.take k) (ht : t.length = k) (hs : k < s.length) : cmpL s t = 1 := by
  rw [cmpL_neg t s, cmpL_end h.symm ht (by omega), if_pos hs]; rfl
theorem take_eq_nextI {xs ys : List Int} {k : Nat} {x : Int} (hx : xs[k]? = some x) (hy : ys[k]? = some x) (h : xs.take k = ys.take k) : xs.take (k + 1) = ys.take (k + 1) := by
  rw [List.take_add_one, List.take_add_one, h, hx, hy]
/-- the least so far -/
def leastOf (b x : List Int) : List Int := if cmpL x b < 0 then x else b
def leastL (b : List Int) (l : List (List Int)) : List Int := l.foldl leastOf b
theorem leastL_snoc (b x : List Int) (l : List (List Int)) : leastL b (l ++ [x]) = leastOf (leastL b l) x := by unfold leastL; rw [List.foldl_append]; rfl
theorem leastL_mem : ∀ (l : List (List Int)) (b : List Int), leastL b l = b ∨ leastL b l ∈ l
  | [], b => .inl rfl
  | x :: t, b => by
    have := leastL_mem t (leastOf b x)
    unfold leastL at this ⊢
    rw [List.foldl_cons]
    rcases this with h | h
    · rw [h]
      unfold leastOf
      split
      · exact .inr List.mem_cons_self
      · exact .inl rfl
    · exact .inr (List.mem_cons_of_mem _ h)
theorem leastL_le_b : ∀ (l : List (List Int)) (b : List Int), cmpL (leastL b l) b ≤ 0
  | [], b => by unfold leastL; rw [List.foldl_nil, cmpL_self]; exact Int.le_refl _
  | x :: t, b => by
    have h1 := leastL_le_b t (leastOf b x)
    have h2 : cmpL (leastOf b x) b ≤ 0 := by
      unfold leastOf
      split
      · omega
      · rw [cmpL_self]; exact Int.le_refl _
    exact cmpL_trans _ _ _ h1 h2
theorem leastL_le : ∀ (l : List (List Int)) (b y : List Int), y ∈ l → cmpL (leastL b l) y ≤ 0
  | [], b, y, h => by cases h
  | x :: t, b, y, h => by
    rcases List.mem_cons.1 h with rfl | h
    · have h1 := leastL_le_b t (leastOf b y)
      have h2 : cmpL (leastOf b y) y ≤ 0 := by
        unfold leastOf
        split
        · rw [cmpL_self]; exact Int.le_refl _
        · have := cmpL_neg y b
          omega
      exact cmpL_trans _ _ _ h1 h2
    · exact leastL_le t (leastOf b x) y h
/-- The least does not depend on the order. -/
theorem leastL_same {b : List Int} {l m : List (List Int)} (h : ∀ y, y ∈ l ↔ y ∈ m) : leastL b l = leastL b m := by
  have key : ∀ (l m : List (List Int)), (∀ y, y ∈ l ↔ y ∈ m) → cmpL (leastL b l) (leastL b m) ≤ 0 := fun l m h => by
    rcases leastL_mem m b with e | e
    · rw [e]; exact leastL_le_b l b
    · exact leastL_le l b _ ((h _).2 e)
  have h1 := key l m h
  have h2 := key m l (fun y => (h y).symm)
  have h3 := cmpL_neg (leastL b l) (leastL b m)
  exact cmpL_eq _ _ (by omega)
end Go.Proofs.Ytnjojnnapdhijaa

namespace Go.Proofs.Ytnjojnnapdhijaa
open Go.RowKit
set_option linter.unusedVariables false

theorem isNaN_any (x : Int) (w : World) : Calls Try.prog 133 #[.int .i64 x] w fun e w' => e = .returned (.bool false) ∧ w = w' := by
  have h1 : (x != x) = false := by simp
  go_enter Try.func133, Try.ntmps133
  go_wp2
  go_ret
  exact ⟨rfl, rfl⟩
def cmpI (x y : Int) : Int := if x < y then -1 else if y < x then 1 else 0
theorem cmpCompare_any (x y : Int) (w : World) : Calls Try.prog 122 #[.int .i64 x, .int .i64 y] w fun e w' => e = .returned (.int .i64 (cmpI x y)) ∧ w = w' := by
  by_cases h1 : x < y
  · have HV : Hid (cmpI x y = -1) := hide (by unfold cmpI; rw [if_pos h1])
    go_enter Try.func122, Try.ntmps122
    go_wp2_with (go_at_call 133; refine (isNaN_any _ _).mono ?_; rintro e w' ⟨rfl, rfl⟩)
    go_ret
    rw [HV.out]
    exact ⟨rfl, rfl⟩
  · by_cases h2 : y < x
    · have HV : Hid (cmpI x y = 1) := hide (by unfold cmpI; rw [if_neg h1, if_pos h2])
      go_enter Try.func122, Try.ntmps122
      go_wp2_with (go_at_call 133; refine (isNaN_any _ _).mono ?_; rintro e w' ⟨rfl, rfl⟩)
      go_ret
      rw [HV.out]
      exact ⟨rfl, rfl⟩
    · have HV : Hid (cmpI x y = 0) := hide (by unfold cmpI; rw [if_neg h1, if_neg h2])
      go_enter Try.func122, Try.ntmps122
      go_wp2_with (go_at_call 133; refine (isNaN_any _ _).mono ?_; rintro e w' ⟨rfl, rfl⟩)
      go_ret
      rw [HV.out]
      exact ⟨rfl, rfl⟩
set_option maxHeartbeats 2000000 in
theorem slCompare_any (A B : Option Addr) (c d : Nat) (xs ys : List Int) (w : World) (hA : RI w A xs) (hB : RI w B ys) (hn : xs.length ≤ 1048576) (hm : ys.length ≤ 1048576) :
    Calls Try.prog 77 #[.slice A xs.length c, .slice B ys.length d] w fun e w' => e = .returned (.int .i64 (cmpL xs ys)) ∧ w = w' := by
  go_enter Try.func77, Try.ntmps77
  go_wp2_with fail
  go_loop [11] (fun s => ∃ k : Nat, k ≤ xs.length ∧ k ≤ ys.length ∧ s = .int .i64 k ∧ Hid (xs.take k = ys.take k)) (fun s => xs.length - (intOf s).toNat)
  case atStart => exact ⟨0, Nat.zero_le _, Nat.zero_le _, rfl, hide (by simp)⟩
  case round =>
    obtain ⟨k, hk, hky, rfl, ht⟩ := hrel
    by_cases hlt : k < xs.length
    · obtain ⟨b, off, x, rfl, hb, hx, hcx⟩ := hA.at_ hlt
      by_cases hly : k < ys.length
      · obtain ⟨b2, off2, y, rfl, hb2, hy, hcy⟩ := hB.at_ hly
        by_cases h1 : x < y
        · have HV : Hid (cmpL xs ys = -1) := hide (cmpL_below ht.out hx hy h1)
          have hci : cmpI x y = -1 := by unfold cmpI; rw [if_pos h1]
          clear hx hy h1
          go_wp2_with (go_at_call 122; refine (cmpCompare_any _ _ _).mono ?_; rw [hci]; rintro e w' ⟨rfl, rfl⟩)
          go_ret
          rw [HV.out]
          exact ⟨rfl, rfl⟩
        · by_cases h2 : y < x
          · have HV : Hid (cmpL xs ys = 1) := hide (cmpL_above ht.out hx hy h2)
            have hci : cmpI x y = 1 := by unfold cmpI; rw [if_neg h1, if_pos h2]
            clear hx hy h1 h2
            go_wp2_with (go_at_call 122; refine (cmpCompare_any _ _ _).mono ?_; rw [hci]; rintro e w' ⟨rfl, rfl⟩)
            go_ret
            rw [HV.out]
            exact ⟨rfl, rfl⟩
          · have hxy : x = y := by omega
            have HT : Hid (xs.take (k + 1) = ys.take (k + 1)) := hide (take_eq_nextI hx (by rw [hxy]; exact hy) ht.out)
            have hci : cmpI x y = 0 := by unfold cmpI; rw [if_neg h1, if_neg h2]
            clear hx hy h1 h2 hxy
            go_wp2_with (go_at_call 122; refine (cmpCompare_any _ _ _).mono ?_; rw [hci]; rintro e w' ⟨rfl, rfl⟩)
            go_round
            case rel => exact ⟨k + 1, by omega, by omega, by go_num, HT⟩
            case measure => simp [intOf]; omega
      · have HV : Hid (cmpL xs ys = 1) := hide (cmpL_end' ht.out (by omega) hlt)
        go_wp2_with fail
        go_ret
        rw [HV.out]
        exact ⟨rfl, rfl⟩
    · have HV := hide (cmpL_end ht.out (show xs.length = k by omega) hky)
      by_cases hly : k < ys.length
      · have hyy : (xs.length : Int) < (ys.length : Int) := by omega
        go_wp2_with fail
        go_ret
        rw [HV.out, if_pos hly]
        exact ⟨rfl, rfl⟩
      · have hyy : ¬ (xs.length : Int) < (ys.length : Int) := by omega
        go_wp2_with fail
        go_ret
        rw [HV.out, if_neg hly]
        exact ⟨rfl, rfl⟩
set_option maxHeartbeats 2000000 in
theorem l06Numbers_any (A B : Option Addr) (c d : Nat) (xs ys : List Int) (w : World) (hA0 : RI w A xs) (hB0 : RI w B ys) (hn : xs.length ≤ 1048576) (hm : ys.length ≤ 1048576) :
    Calls Try.prog 79 #[.slice A xs.length c, .slice B ys.length d] w (RetV w (.int .i64 (cmpL xs ys))) := by
  go_enter Try.func79, Try.ntmps79
  go_wp2_with fail
  go_loopw [5] (fun s wr => ∃ k : Nat, k ≤ xs.length ∧ k ≤ ys.length ∧ s = .int .i64 k ∧ Hid (xs.take k = ys.take k) ∧ Below w.heap.size w wr) (fun s _ => xs.length - (intOf s).toNat)
  case atStart => exact ⟨0, Nat.zero_le _, Nat.zero_le _, rfl, hide (by simp), Below.refl _ _⟩
  case round =>
    obtain ⟨k, hk, hky, rfl, ht, hbw⟩ := hrel
    have hA := hA0.below hbw
    have hB := hB0.below hbw
    by_cases hlt : k < xs.length
    · obtain ⟨b, off, x, rfl, hb, hx, hcx⟩ := hA.at_ hlt
      by_cases hly : k < ys.length
      · obtain ⟨b2, off2, y, rfl, hb2, hy, hcy⟩ := hB.at_ hly
        have g1 : (k : Int) < (xs.length : Int) := by omega
        have g2 : (k : Int) < (ys.length : Int) := by omega
        by_cases h1 : x < y
        · have HV : Hid (cmpL xs ys = -1) := hide (cmpL_below ht.out hx hy h1)
          clear hx hy
          go_wp2_with fail
          go_quiet (fail)
          go_wp2_with fail
          go_ret
          rw [HV.out]
          exact ⟨rfl, below_drewN'' hbw _⟩
        · by_cases h2 : y < x
          · have HV : Hid (cmpL xs ys = 1) := hide (cmpL_above ht.out hx hy h2)
            clear hx hy
            go_wp2_with fail
            go_quiet (fail)
            go_wp2_with fail
            go_quiet (fail)
            go_wp2_with fail
            go_ret
            rw [HV.out]
            exact ⟨rfl, below_drewN'' (below_drewN'' hbw _) _⟩
          · have hxy : x = y := by omega
            have HT : Hid (xs.take (k + 1) = ys.take (k + 1)) := hide (take_eq_nextI hx (by rw [hxy]; exact hy) ht.out)
            clear hx hy hxy
            go_wp2_with fail
            go_quiet (fail)
            go_wp2_with fail
            go_quiet (fail)
            go_wp2_with fail
            go_roundw
            case rel => exact ⟨k + 1, by omega, by omega, by go_num, HT, below_drewN'' hbw _⟩
            case measure => simp [intOf]; omega
      · have HV : Hid (cmpL xs ys = 1) := hide (cmpL_end' ht.out (by omega) hlt)
        have hyy : ¬ (xs.length : Int) < (ys.length : Int) := by omega
        have hyz : (ys.length : Int) < (xs.length : Int) := by omega
        go_wp2_with fail
        go_ret
        rw [HV.out]
        exact ⟨rfl, hbw⟩
    · have HV := hide (cmpL_end ht.out (show xs.length = k by omega) hky)
      by_cases hly : k < ys.length
      · have hyy : (xs.length : Int) < (ys.length : Int) := by omega
        go_wp2_with fail
        go_ret
        rw [HV.out, if_pos hly]
        exact ⟨rfl, hbw⟩
      · have hyy : ¬ (xs.length : Int) < (ys.length : Int) := by omega
        have hyz : ¬ (ys.length : Int) < (xs.length : Int) := by omega
        go_wp2_with fail
        go_ret
        rw [HV.out, if_neg hly]
        exact ⟨rfl, hbw⟩
end Go.Proofs.Ytnjojnnapdhijaa
