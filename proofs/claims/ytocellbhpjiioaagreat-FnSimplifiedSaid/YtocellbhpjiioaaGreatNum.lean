/-
  The number that a text tells: plain lemmas, and the contracts of both functions that read it. Conditions: the text's length is far below the machine's.
-/
import Derived.Test.YtocellbhpjiioaaGreatSplit
namespace Go.Proofs.YtocellbhpjiioaaGreat
open Go.RowKit
set_option linter.unusedVariables false

theorem str_eql {P : Program} (W : World) (t : TypeId) (a b : List UInt8) : (binOp .eql t (str a) (str b)).run P W = .ok (.bool (decide (a = b))) W := by
  unfold str
  rw [binOp_string_eql, ByteArray.toList_mk, ByteArray.toList_mk]
  show Result.ok (Value.bool (a == b)) W = _
  by_cases h : a = b
  · rw [h, decide_eq_true rfl]; simp
  · rw [decide_eq_false h, beq_eq_false_iff_ne.2 h]
theorem str_neq {P : Program} (W : World) (t : TypeId) (a b : List UInt8) : (binOp .neq t (str a) (str b)).run P W = .ok (.bool (decide (a ≠ b))) W := by
  unfold str
  rw [binOp_string_neq, ByteArray.toList_mk, ByteArray.toList_mk]
  show Result.ok (Value.bool (!(a == b))) W = _
  by_cases h : a = b
  · rw [h, decide_eq_false (by simp)]; simp
  · rw [decide_eq_true h, beq_eq_false_iff_ne.2 h]; rfl
theorem guard_eql (W : World) (x y : Operand) (l m : List UInt8) : (eqGuard .eql 9 x y (str l) (str m)).run Tryz.prog W = .ok () W := by
  unfold str
  simp [eqGuard, go_sem]
theorem guard_neq (W : World) (x y : Operand) (l m : List UInt8) : (eqGuard .neq 9 x y (str l) (str m)).run Tryz.prog W = .ok () W := by
  unfold str
  simp [eqGuard, go_sem]
def digB (c : UInt8) : Bool := decide (48 ≤ c.toNat ∧ c.toNat ≤ 57)
theorem digB_true {c : UInt8} : digB c = true ↔ 48 ≤ c.toNat ∧ c.toNat ≤ 57 := by simp [digB]
def dval (t : List UInt8) : Int := t.foldl (fun n c => 10 * n + ((c.toNat : Int) - 48)) 0
theorem dval_next {t : List UInt8} {i : Nat} {x : UInt8} (h : t[i]? = some x) : dval (t.take (i + 1)) = 10 * dval (t.take i) + ((x.toNat : Int) - 48) := by
  unfold dval
  rw [List.take_add_one, h, List.foldl_append]
  rfl
def ndig (l : List UInt8) : List UInt8 := if l.head? = some 45 then l.tail else l
def numT (l t : List UInt8) : Int × Bool :=
  if 1 ≤ t.length ∧ t.length ≤ 18 ∧ t.all digB = true then
    (if decL (if t.length < l.length then -dval t else dval t) = l then (if t.length < l.length then -dval t else dval t, true) else (0, false))
  else (0, false)
def numV (l : List UInt8) : Int × Bool := numT l (ndig l)
theorem numT_no {l t : List UInt8} (h : ¬ (1 ≤ t.length ∧ t.length ≤ 18)) : numT l t = (0, false) := by unfold numT; rw [if_neg (by omega)]
theorem numT_bad {l t : List UInt8} {i : Nat} {x : UInt8} (hx : t[i]? = some x) (h : digB x = false) : numT l t = (0, false) := by
  unfold numT
  rw [if_neg]
  rintro ⟨_, _, h3⟩
  have := List.all_eq_true.1 h3 x (List.mem_of_getElem? hx)
  rw [h] at this
  cases this
theorem numT_end {l t : List UInt8} (h1 : 1 ≤ t.length) (h2 : t.length ≤ 18) (h3 : t.all digB = true) {n : Int} (hn : n = if t.length < l.length then -dval t else dval t) : numT l t = if decL n = l then (n, true) else (0, false) := by
  unfold numT
  rw [if_pos ⟨h1, h2, h3⟩, ← hn]
theorem digs_next {t : List UInt8} {i : Nat} {x : UInt8} (hx : t[i]? = some x) (h : (t.take i).all digB = true) (hd : digB x = true) : (t.take (i + 1)).all digB = true := by
  rw [List.take_add_one, hx, List.all_append, h]
  simp [hd]
theorem pow_17 {i : Nat} (h : i ≤ 17) {n : Int} (hn : n < 10 ^ i) : n ≤ 99999999999999999 := by
  have : (10 : Int) ^ i ≤ 10 ^ 17 := by exact_mod_cast Nat.pow_le_pow_right (by omega) h
  have e : (10 : Int) ^ 17 = 100000000000000000 := by decide
  omega
theorem pow_18 {i : Nat} (h : i ≤ 18) {n : Int} (hn : n < 10 ^ i) : n ≤ 999999999999999999 := by
  have : (10 : Int) ^ i ≤ 10 ^ 18 := by exact_mod_cast Nat.pow_le_pow_right (by omega) h
  have e : (10 : Int) ^ 18 = 1000000000000000000 := by decide
  omega
theorem pow_next {i : Nat} {n d : Int} (hn : n < 10 ^ i) (hd : d ≤ 9) : 10 * n + d < 10 ^ (i + 1) := by
  rw [Int.pow_succ]
  omega
theorem l01Digit_any (x : UInt8) (w : World) : Calls Tryz.prog 81 #[.int .u8 (x.toNat : Int)] w fun e w' => e = .returned (.bool (digB x)) ∧ w = w' := by
  have hx := x.toNat_lt
  by_cases h1 : 48 ≤ x.toNat
  · by_cases h2 : x.toNat ≤ 57
    · have hv := hide (digB_true.2 ⟨h1, h2⟩)
      have e1 : (48 : Int) ≤ (x.toNat : Int) := by omega
      have e2 : (x.toNat : Int) ≤ 57 := by omega
      go_enter Tryz.func81, Tryz.ntmps81
      go_wp2_with fail
      go_ret
      rw [hv.out]
      exact ⟨rfl, rfl⟩
    · have hv : Hid (digB x = false) := hide (by simp [digB]; omega)
      have e1 : (48 : Int) ≤ (x.toNat : Int) := by omega
      have e2 : ¬ (x.toNat : Int) ≤ 57 := by omega
      go_enter Tryz.func81, Tryz.ntmps81
      go_wp2_with fail
      go_ret
      rw [hv.out]
      exact ⟨rfl, rfl⟩
  · have hv : Hid (digB x = false) := hide (by simp [digB]; omega)
    have e1 : ¬ (48 : Int) ≤ (x.toNat : Int) := by omega
    go_enter Tryz.func81, Tryz.ntmps81
    go_wp2_with fail
    go_ret
    rw [hv.out]
    exact ⟨rfl, rfl⟩

set_option maxRecDepth 20000 in
set_option maxHeartbeats 8000000 in
theorem l01Number_any (l : List UInt8) (w : World) (hn : l.length ≤ 1048576) :
    Calls Tryz.prog 74 #[str l] w (RetV w (.tuple #[.int .i64 (numV l).1, .bool (numV l).2])) := by
  rcases l with _ | ⟨c, r⟩
  · have HV : Hid (numV [] = (0, false)) := hide (numT_no (by simp [ndig]))
    have hlen : ∀ W : World, (Builtin.len_ #[9] 3 #[str []]).run Tryz.prog W = .ok (goInt 0) W := fun W => str_len_ (P := Tryz.prog) W 9 Tryz.underlying9 3 []
    have hneq : ∀ (W : World) (u : TypeId), (binOp .neq u (str []) (.string ⟨#[]⟩)).run Tryz.prog W = .ok (.bool false) W := fun W u => str_neq (P := Tryz.prog) W u [] []
    have hgrd : ∀ (W : World) (x y : Operand), (eqGuard .neq 9 x y (str []) (.string ⟨#[]⟩)).run Tryz.prog W = .ok () W := fun W x y => guard_neq W x y [] []
    go_enter Tryz.func74, Tryz.ntmps74
    go_wp2_with fail
    go_ret2
    rw [HV.out]
    exact ⟨rfl, Below.refl _ _⟩
  · have hat0 : ∀ W : World, (Instr.index 9 (str (c :: r)) (.int .i64 0)).run Tryz.prog W = .ok (.int .u8 (c.toNat : Int)) W := fun W => str_at_ (P := Tryz.prog) W 9 Tryz.underlying9 (l := c :: r) (k := 0) rfl
    have hlen := fun (W : World) => str_len_ (P := Tryz.prog) W 9 Tryz.underlying9 3 (c :: r)
    have hneq0 : ∀ (W : World) (u : TypeId), (binOp .neq u (str (c :: r)) (.string ⟨#[]⟩)).run Tryz.prog W = .ok (.bool true) W := fun W u => (str_neq (P := Tryz.prog) W u (c :: r) []).trans (by rw [decide_eq_true (by simp)])
    have hgrd0 : ∀ (W : World) (x y : Operand), (eqGuard .neq 9 x y (str (c :: r)) (.string ⟨#[]⟩)).run Tryz.prog W = .ok () W := fun W x y => guard_neq W x y (c :: r) []
    by_cases hc : c = 45
    · subst hc
      have hV : numV (45 :: r) = numT (45 :: r) r := by unfold numV ndig; simp
      have hcut : ∀ W : World, (Instr.slice 9 (str (45 :: r)) (some (.int .i64 1)) none none).run Tryz.prog W = .ok (str r) W := fun W => str_from_ (P := Tryz.prog) W 9 Tryz.underlying9 (l := 45 :: r) (i := 1) (by simp)
      have hat0 : ∀ W : World, (Instr.index 9 (str (45 :: r)) (.int .i64 0)).run Tryz.prog W = .ok (.int .u8 45) W := hat0
      rw [hV]
      obtain ⟨t, rfl⟩ : ∃ t, t = r := ⟨_, rfl⟩
      have hn2 : t.length ≤ 1048576 := by rw [List.length_cons] at hn; omega
      have hp0 : (0 : Int) < ((45 :: t : List UInt8).length : Int) := by rw [List.length_cons]; omega
      clear hV
      go_enter Tryz.func74, Tryz.ntmps74
      have hlt := fun (W : World) => str_len_ (P := Tryz.prog) W 9 Tryz.underlying9 3 t
      by_cases hb : 1 ≤ t.length ∧ t.length ≤ 18
      · obtain ⟨hb1, hb2⟩ := hb
        have f1 : ¬ ((t.length : Int) < 1) := by omega
        have f2 : ¬ ((18 : Int) < (t.length : Int)) := by omega
        go_wp2_with fail
        go_loop [5, 6] (fun s5 s6 => ∃ (i : Nat) (n : Int), i ≤ t.length ∧ s6 = .int .i64 (i : Int) ∧ s5 = .int .i64 n ∧ Hid (n = dval (t.take i)) ∧ 0 ≤ n ∧ Hid (n < 10 ^ i) ∧ Hid ((t.take i).all digB = true)) (fun _ s6 => t.length - (intOf s6).toNat)
        case atStart => exact ⟨0, 0, Nat.zero_le _, rfl, rfl, hide rfl, Int.le_refl _, hide (by decide), hide rfl⟩
        case round =>
          obtain ⟨i, n, hi, rfl, rfl, hn, hn0, hnb, hall⟩ := hrel
          by_cases hlt2 : i < t.length
          · obtain ⟨x, hx⟩ : ∃ x, t[i]? = some x := ⟨_, List.getElem?_eq_getElem hlt2⟩
            have hat := fun (W : World) => str_at_ (P := Tryz.prog) W 9 Tryz.underlying9 hx
            have hx8 := x.toNat_lt
            have hil : (i : Int) < (t.length : Int) := by omega
            have hn17 := pow_17 (by omega) hnb.out
            cases hd : digB x
            · have HV := hide (numT_bad (l := 45 :: t) hx hd)
              have hdn : ¬ (48 ≤ x.toNat ∧ x.toNat ≤ 57) := fun h => by rw [digB_true.2 h] at hd; cases hd
              have HD := hide (fun W : World => l01Digit_any x W)
              rw [hd] at HD
              clear hd hx hdn
              go_wp2_with (go_at_call 81; refine (HD.out _).mono ?_; rintro e w' ⟨rfl, rfl⟩)
              go_ret2
              rw [HV.out]
              exact ⟨rfl, Below.refl _ _⟩
            · have hdn := digB_true.1 hd
              have HN : Hid (10 * n + ((x.toNat : Int) - 48) = dval (t.take (i + 1))) := hide (by rw [dval_next hx, hn.out])
              have HB := hide (pow_next (d := (x.toNat : Int) - 48) hnb.out (by omega))
              have HA := hide (digs_next hx hall.out hd)
              have e1 : ¬ (x.toNat : Int) < 48 := by omega
              have e2 : ¬ (57 : Int) < (x.toNat : Int) := by omega
              have w1 : IntKind.u8.wrap ((x.toNat : Int) - 48) = (x.toNat : Int) - 48 := by rw [IntKind.wrap_u8]; omega
              have w2 : IntKind.i64.wrap ((x.toNat : Int) - 48) = (x.toNat : Int) - 48 := by rw [IntKind.wrap_i64]; omega
              have w3 : IntKind.i64.wrap (10 * n) = 10 * n := by rw [IntKind.wrap_i64]; omega
              have w4 : IntKind.i64.wrap (10 * n + ((x.toNat : Int) - 48)) = 10 * n + ((x.toNat : Int) - 48) := by rw [IntKind.wrap_i64]; omega
              have HG : Hid (0 ≤ 10 * n + ((x.toNat : Int) - 48)) := hide (by omega)
              have HD := hide (fun W : World => l01Digit_any x W)
              rw [hd] at HD
              clear hd hx
              go_wp2_with (go_at_call 81; refine (HD.out _).mono ?_; rintro e w' ⟨rfl, rfl⟩)
              go_round
              case rel => exact ⟨i + 1, _, by omega, by go_num, rfl, HN, HG.out, HB, HA⟩
              case measure => simp [intOf]; omega
          · have hie : i = t.length := by omega
            have hil : ¬ ((i : Int) < (t.length : Int)) := by omega
            have hn18 := pow_18 (by omega) hnb.out
            rw [hie, List.take_of_length_le (Nat.le_refl _)] at hall hn
            have HV := hide (fun (m : Int) (hm : m = if t.length < (45 :: t).length then -dval t else dval t) => numT_end (l := 45 :: t) hb1 hb2 hall.out hm)
            have HV2 := hide (HV.out (-n) (by rw [if_pos (by simp), hn.out]))
            have f3 : (t.length : Int) < ((45 :: t).length : Int) := by rw [List.length_cons]; omega
            have HD := hide (fun W : World => l01Dec_any (-n) W (by unfold I64; omega))
            obtain ⟨ds, hds⟩ : ∃ ds, ds = decL (-n) := ⟨_, rfl⟩
            rw [← hds] at HD HV2
            clear hds HV hall hn
            by_cases hq : ds = 45 :: t
            · have hneq := fun (W : World) (u : TypeId) => str_neq (P := Tryz.prog) W u ds (45 :: t)
              have hgrd := fun (W : World) (x y : Operand) => guard_neq W x y ds (45 :: t)
              have hV3 := HV2.out
              rw [if_pos hq] at hV3
              have HV4 := hide hV3
              rw [decide_eq_false (show ¬ ds ≠ 45 :: t from fun h => h hq)] at hneq
              clear hq hV3
              go_wp2_with fail
              refine (HD.out _).mono ?_
              rintro e w1 ⟨rfl, hb9⟩
              go_wp2_with fail
              go_ret2
              rw [HV4.out]
              exact ⟨rfl, hb9⟩
            · have hneq := fun (W : World) (u : TypeId) => str_neq (P := Tryz.prog) W u ds (45 :: t)
              have hgrd := fun (W : World) (x y : Operand) => guard_neq W x y ds (45 :: t)
              have hV3 := HV2.out
              rw [if_neg hq] at hV3
              have HV4 := hide hV3
              rw [decide_eq_true (show ds ≠ 45 :: t from hq)] at hneq
              clear hq hV3
              go_wp2_with fail
              refine (HD.out _).mono ?_
              rintro e w1 ⟨rfl, hb9⟩
              go_wp2_with fail
              go_ret2
              rw [HV4.out]
              exact ⟨rfl, hb9⟩
      · have HV := hide (numT_no (l := 45 :: t) hb)
        by_cases h0 : t.length < 1
        · have f1 : (t.length : Int) < 1 := by omega
          go_wp2_with fail
          go_ret2
          rw [HV.out]
          exact ⟨rfl, Below.refl _ _⟩
        · have f1 : ¬ ((t.length : Int) < 1) := by omega
          have f2 : (18 : Int) < (t.length : Int) := by omega
          go_wp2_with fail
          go_ret2
          rw [HV.out]
          exact ⟨rfl, Below.refl _ _⟩
    · have hcn : ((c.toNat : Int) == 45) = false := by
        rw [beq_eq_false_iff_ne]
        intro h
        exact hc (UInt8.toNat_inj.1 (show c.toNat = 45 by omega))
      have hV : numV (c :: r) = numT (c :: r) (c :: r) := by unfold numV ndig; rw [if_neg (by simpa using hc)]
      rw [hV]
      have hp0 : (0 : Int) < ((c :: r : List UInt8).length : Int) := by rw [List.length_cons]; omega
      obtain ⟨t, ht⟩ : ∃ t, t = c :: r := ⟨_, rfl⟩
      rw [← ht] at hat0 hlen hneq0 hgrd0 hn hp0 ⊢
      clear hV ht hc
      go_enter Tryz.func74, Tryz.ntmps74
      have hlt := fun (W : World) => str_len_ (P := Tryz.prog) W 9 Tryz.underlying9 3 t
      by_cases hb : 1 ≤ t.length ∧ t.length ≤ 18
      · obtain ⟨hb1, hb2⟩ := hb
        have f1 : ¬ ((t.length : Int) < 1) := by omega
        have f2 : ¬ ((18 : Int) < (t.length : Int)) := by omega
        go_wp2_with fail
        go_loop [5, 6] (fun s5 s6 => ∃ (i : Nat) (n : Int), i ≤ t.length ∧ s6 = .int .i64 (i : Int) ∧ s5 = .int .i64 n ∧ Hid (n = dval (t.take i)) ∧ 0 ≤ n ∧ Hid (n < 10 ^ i) ∧ Hid ((t.take i).all digB = true)) (fun _ s6 => t.length - (intOf s6).toNat)
        case atStart => exact ⟨0, 0, Nat.zero_le _, rfl, rfl, hide rfl, Int.le_refl _, hide (by decide), hide rfl⟩
        case round =>
          obtain ⟨i, n, hi, rfl, rfl, hn, hn0, hnb, hall⟩ := hrel
          by_cases hlt2 : i < t.length
          · obtain ⟨x, hx⟩ : ∃ x, t[i]? = some x := ⟨_, List.getElem?_eq_getElem hlt2⟩
            have hat := fun (W : World) => str_at_ (P := Tryz.prog) W 9 Tryz.underlying9 hx
            have hx8 := x.toNat_lt
            have hil : (i : Int) < (t.length : Int) := by omega
            have hn17 := pow_17 (by omega) hnb.out
            cases hd : digB x
            · have HV := hide (numT_bad (l := t) hx hd)
              have hdn : ¬ (48 ≤ x.toNat ∧ x.toNat ≤ 57) := fun h => by rw [digB_true.2 h] at hd; cases hd
              have HD := hide (fun W : World => l01Digit_any x W)
              rw [hd] at HD
              clear hd hx hdn
              go_wp2_with (go_at_call 81; refine (HD.out _).mono ?_; rintro e w' ⟨rfl, rfl⟩)
              go_ret2
              rw [HV.out]
              exact ⟨rfl, Below.refl _ _⟩
            · have hdn := digB_true.1 hd
              have HN : Hid (10 * n + ((x.toNat : Int) - 48) = dval (t.take (i + 1))) := hide (by rw [dval_next hx, hn.out])
              have HB := hide (pow_next (d := (x.toNat : Int) - 48) hnb.out (by omega))
              have HA := hide (digs_next hx hall.out hd)
              have e1 : ¬ (x.toNat : Int) < 48 := by omega
              have e2 : ¬ (57 : Int) < (x.toNat : Int) := by omega
              have w1 : IntKind.u8.wrap ((x.toNat : Int) - 48) = (x.toNat : Int) - 48 := by rw [IntKind.wrap_u8]; omega
              have w2 : IntKind.i64.wrap ((x.toNat : Int) - 48) = (x.toNat : Int) - 48 := by rw [IntKind.wrap_i64]; omega
              have w3 : IntKind.i64.wrap (10 * n) = 10 * n := by rw [IntKind.wrap_i64]; omega
              have w4 : IntKind.i64.wrap (10 * n + ((x.toNat : Int) - 48)) = 10 * n + ((x.toNat : Int) - 48) := by rw [IntKind.wrap_i64]; omega
              have HG : Hid (0 ≤ 10 * n + ((x.toNat : Int) - 48)) := hide (by omega)
              have HD := hide (fun W : World => l01Digit_any x W)
              rw [hd] at HD
              clear hd hx
              go_wp2_with (go_at_call 81; refine (HD.out _).mono ?_; rintro e w' ⟨rfl, rfl⟩)
              go_round
              case rel => exact ⟨i + 1, _, by omega, by go_num, rfl, HN, HG.out, HB, HA⟩
              case measure => simp [intOf]; omega
          · have hie : i = t.length := by omega
            have hil : ¬ ((i : Int) < (t.length : Int)) := by omega
            have hn18 := pow_18 (by omega) hnb.out
            rw [hie, List.take_of_length_le (Nat.le_refl _)] at hall hn
            have HV := hide (fun (m : Int) (hm : m = if t.length < (t).length then -dval t else dval t) => numT_end (l := t) hb1 hb2 hall.out hm)
            have HV2 := hide (HV.out n (by rw [if_neg (Nat.lt_irrefl _), hn.out]))
            have f3 : ¬ ((t.length : Int) < (t.length : Int)) := by omega
            have HD := hide (fun W : World => l01Dec_any n W (by unfold I64; omega))
            obtain ⟨ds, hds⟩ : ∃ ds, ds = decL n := ⟨_, rfl⟩
            rw [← hds] at HD HV2
            clear hds HV hall hn
            by_cases hq : ds = t
            · have hneq := fun (W : World) (u : TypeId) => str_neq (P := Tryz.prog) W u ds (t)
              have hgrd := fun (W : World) (x y : Operand) => guard_neq W x y ds (t)
              have hV3 := HV2.out
              rw [if_pos hq] at hV3
              have HV4 := hide hV3
              rw [decide_eq_false (show ¬ ds ≠ t from fun h => h hq)] at hneq
              clear hq hV3
              go_wp2_with fail
              refine (HD.out _).mono ?_
              rintro e w1 ⟨rfl, hb9⟩
              go_wp2_with fail
              go_ret2
              rw [HV4.out]
              exact ⟨rfl, hb9⟩
            · have hneq := fun (W : World) (u : TypeId) => str_neq (P := Tryz.prog) W u ds (t)
              have hgrd := fun (W : World) (x y : Operand) => guard_neq W x y ds (t)
              have hV3 := HV2.out
              rw [if_neg hq] at hV3
              have HV4 := hide hV3
              rw [decide_eq_true (show ds ≠ t from hq)] at hneq
              clear hq hV3
              go_wp2_with fail
              refine (HD.out _).mono ?_
              rintro e w1 ⟨rfl, hb9⟩
              go_wp2_with fail
              go_ret2
              rw [HV4.out]
              exact ⟨rfl, hb9⟩
      · have HV := hide (numT_no (l := t) hb)
        by_cases h0 : t.length < 1
        · exfalso; omega
        · have f1 : ¬ ((t.length : Int) < 1) := by omega
          have f2 : (18 : Int) < (t.length : Int) := by omega
          go_wp2_with fail
          go_ret2
          rw [HV.out]
          exact ⟨rfl, Below.refl _ _⟩
set_option maxRecDepth 20000 in
set_option maxHeartbeats 8000000 in
theorem readDecimal_any (l : List UInt8) (w : World) (hn : l.length ≤ 1048576) :
    Calls Tryz.prog 72 #[str l] w (RetV w (.tuple #[.int .i64 (numV l).1, .bool (numV l).2])) := by
  rcases l with _ | ⟨c, r⟩
  · have HV : Hid (numV [] = (0, false)) := hide (numT_no (by simp [ndig]))
    have hlen : ∀ W : World, (Builtin.len_ #[9] 3 #[str []]).run Tryz.prog W = .ok (goInt 0) W := fun W => str_len_ (P := Tryz.prog) W 9 Tryz.underlying9 3 []
    have hneq : ∀ (W : World) (u : TypeId), (binOp .neq u (str []) (.string ⟨#[]⟩)).run Tryz.prog W = .ok (.bool false) W := fun W u => str_neq (P := Tryz.prog) W u [] []
    have hgrd : ∀ (W : World) (x y : Operand), (eqGuard .neq 9 x y (str []) (.string ⟨#[]⟩)).run Tryz.prog W = .ok () W := fun W x y => guard_neq W x y [] []
    go_enter Tryz.func72, Tryz.ntmps72
    go_wp2_with fail
    go_ret2
    rw [HV.out]
    exact ⟨rfl, Below.refl _ _⟩
  · have hat0 : ∀ W : World, (Instr.index 9 (str (c :: r)) (.int .i64 0)).run Tryz.prog W = .ok (.int .u8 (c.toNat : Int)) W := fun W => str_at_ (P := Tryz.prog) W 9 Tryz.underlying9 (l := c :: r) (k := 0) rfl
    have hlen := fun (W : World) => str_len_ (P := Tryz.prog) W 9 Tryz.underlying9 3 (c :: r)
    have hneq0 : ∀ (W : World) (u : TypeId), (binOp .neq u (str (c :: r)) (.string ⟨#[]⟩)).run Tryz.prog W = .ok (.bool true) W := fun W u => (str_neq (P := Tryz.prog) W u (c :: r) []).trans (by rw [decide_eq_true (by simp)])
    have hgrd0 : ∀ (W : World) (x y : Operand), (eqGuard .neq 9 x y (str (c :: r)) (.string ⟨#[]⟩)).run Tryz.prog W = .ok () W := fun W x y => guard_neq W x y (c :: r) []
    by_cases hc : c = 45
    · subst hc
      have hV : numV (45 :: r) = numT (45 :: r) r := by unfold numV ndig; simp
      have hcut : ∀ W : World, (Instr.slice 9 (str (45 :: r)) (some (.int .i64 1)) none none).run Tryz.prog W = .ok (str r) W := fun W => str_from_ (P := Tryz.prog) W 9 Tryz.underlying9 (l := 45 :: r) (i := 1) (by simp)
      have hat0 : ∀ W : World, (Instr.index 9 (str (45 :: r)) (.int .i64 0)).run Tryz.prog W = .ok (.int .u8 45) W := hat0
      rw [hV]
      obtain ⟨t, rfl⟩ : ∃ t, t = r := ⟨_, rfl⟩
      have hn2 : t.length ≤ 1048576 := by rw [List.length_cons] at hn; omega
      have hp0 : (0 : Int) < ((45 :: t : List UInt8).length : Int) := by rw [List.length_cons]; omega
      clear hV
      go_enter Tryz.func72, Tryz.ntmps72
      have hlt := fun (W : World) => str_len_ (P := Tryz.prog) W 9 Tryz.underlying9 3 t
      by_cases hb : 1 ≤ t.length ∧ t.length ≤ 18
      · obtain ⟨hb1, hb2⟩ := hb
        have f1 : ¬ ((t.length : Int) < 1) := by omega
        have f2 : ¬ ((18 : Int) < (t.length : Int)) := by omega
        go_wp2_with fail
        go_loop [5, 28] (fun s5 s6 => ∃ (i : Nat) (n : Int), i ≤ t.length ∧ s6 = .int .i64 (i : Int) ∧ s5 = .int .i64 n ∧ Hid (n = dval (t.take i)) ∧ 0 ≤ n ∧ Hid (n < 10 ^ i) ∧ Hid ((t.take i).all digB = true)) (fun _ s6 => t.length - (intOf s6).toNat)
        case atStart => exact ⟨0, 0, Nat.zero_le _, rfl, rfl, hide rfl, Int.le_refl _, hide (by decide), hide rfl⟩
        case round =>
          obtain ⟨i, n, hi, rfl, rfl, hn, hn0, hnb, hall⟩ := hrel
          by_cases hlt2 : i < t.length
          · obtain ⟨x, hx⟩ : ∃ x, t[i]? = some x := ⟨_, List.getElem?_eq_getElem hlt2⟩
            have hat := fun (W : World) => str_at_ (P := Tryz.prog) W 9 Tryz.underlying9 hx
            have hx8 := x.toNat_lt
            have hil : (i : Int) < (t.length : Int) := by omega
            have hn17 := pow_17 (by omega) hnb.out
            cases hd : digB x
            · have HV := hide (numT_bad (l := 45 :: t) hx hd)
              have hdn : ¬ (48 ≤ x.toNat ∧ x.toNat ≤ 57) := fun h => by rw [digB_true.2 h] at hd; cases hd
              clear hd hx
              by_cases h48 : x.toNat < 48
              · have e1 : (x.toNat : Int) < 48 := by omega
                go_wp2_with fail
                go_ret2
                rw [HV.out]
                exact ⟨rfl, Below.refl _ _⟩
              · have e1 : ¬ (x.toNat : Int) < 48 := by omega
                have e2 : (57 : Int) < (x.toNat : Int) := by omega
                go_wp2_with fail
                go_ret2
                rw [HV.out]
                exact ⟨rfl, Below.refl _ _⟩
            · have hdn := digB_true.1 hd
              have HN : Hid (10 * n + ((x.toNat : Int) - 48) = dval (t.take (i + 1))) := hide (by rw [dval_next hx, hn.out])
              have HB := hide (pow_next (d := (x.toNat : Int) - 48) hnb.out (by omega))
              have HA := hide (digs_next hx hall.out hd)
              have e1 : ¬ (x.toNat : Int) < 48 := by omega
              have e2 : ¬ (57 : Int) < (x.toNat : Int) := by omega
              have w1 : IntKind.u8.wrap ((x.toNat : Int) - 48) = (x.toNat : Int) - 48 := by rw [IntKind.wrap_u8]; omega
              have w2 : IntKind.i64.wrap ((x.toNat : Int) - 48) = (x.toNat : Int) - 48 := by rw [IntKind.wrap_i64]; omega
              have w3 : IntKind.i64.wrap (10 * n) = 10 * n := by rw [IntKind.wrap_i64]; omega
              have w4 : IntKind.i64.wrap (10 * n + ((x.toNat : Int) - 48)) = 10 * n + ((x.toNat : Int) - 48) := by rw [IntKind.wrap_i64]; omega
              have HG : Hid (0 ≤ 10 * n + ((x.toNat : Int) - 48)) := hide (by omega)
              clear hd hx
              go_wp2_with fail
              go_round
              case rel => exact ⟨i + 1, _, by omega, by go_num, rfl, HN, HG.out, HB, HA⟩
              case measure => simp [intOf]; omega
          · have hie : i = t.length := by omega
            have hil : ¬ ((i : Int) < (t.length : Int)) := by omega
            have hn18 := pow_18 (by omega) hnb.out
            rw [hie, List.take_of_length_le (Nat.le_refl _)] at hall hn
            have HV := hide (fun (m : Int) (hm : m = if t.length < (45 :: t).length then -dval t else dval t) => numT_end (l := 45 :: t) hb1 hb2 hall.out hm)
            have HV2 := hide (HV.out (-n) (by rw [if_pos (by simp), hn.out]))
            have f3 : (t.length : Int) < ((45 :: t).length : Int) := by rw [List.length_cons]; omega
            have HD := hide (fun W : World => decimal_any (-n) W (by unfold I64; omega))
            obtain ⟨ds, hds⟩ : ∃ ds, ds = decL (-n) := ⟨_, rfl⟩
            rw [← hds] at HD HV2
            clear hds HV hall hn
            by_cases hq : ds = 45 :: t
            · have hneq := fun (W : World) (u : TypeId) => str_neq (P := Tryz.prog) W u ds (45 :: t)
              have hgrd := fun (W : World) (x y : Operand) => guard_neq W x y ds (45 :: t)
              have hV3 := HV2.out
              rw [if_pos hq] at hV3
              have HV4 := hide hV3
              rw [decide_eq_false (show ¬ ds ≠ 45 :: t from fun h => h hq)] at hneq
              clear hq hV3
              go_wp2_with fail
              refine (HD.out _).mono ?_
              rintro e w1 ⟨rfl, hb9⟩
              go_wp2_with fail
              go_ret2
              rw [HV4.out]
              exact ⟨rfl, hb9⟩
            · have hneq := fun (W : World) (u : TypeId) => str_neq (P := Tryz.prog) W u ds (45 :: t)
              have hgrd := fun (W : World) (x y : Operand) => guard_neq W x y ds (45 :: t)
              have hV3 := HV2.out
              rw [if_neg hq] at hV3
              have HV4 := hide hV3
              rw [decide_eq_true (show ds ≠ 45 :: t from hq)] at hneq
              clear hq hV3
              go_wp2_with fail
              refine (HD.out _).mono ?_
              rintro e w1 ⟨rfl, hb9⟩
              go_wp2_with fail
              go_ret2
              rw [HV4.out]
              exact ⟨rfl, hb9⟩
      · have HV := hide (numT_no (l := 45 :: t) hb)
        by_cases h0 : t.length < 1
        · have f1 : (t.length : Int) < 1 := by omega
          go_wp2_with fail
          go_ret2
          rw [HV.out]
          exact ⟨rfl, Below.refl _ _⟩
        · have f1 : ¬ ((t.length : Int) < 1) := by omega
          have f2 : (18 : Int) < (t.length : Int) := by omega
          go_wp2_with fail
          go_ret2
          rw [HV.out]
          exact ⟨rfl, Below.refl _ _⟩
    · have hcn : ((c.toNat : Int) == 45) = false := by
        rw [beq_eq_false_iff_ne]
        intro h
        exact hc (UInt8.toNat_inj.1 (show c.toNat = 45 by omega))
      have hV : numV (c :: r) = numT (c :: r) (c :: r) := by unfold numV ndig; rw [if_neg (by simpa using hc)]
      rw [hV]
      have hp0 : (0 : Int) < ((c :: r : List UInt8).length : Int) := by rw [List.length_cons]; omega
      obtain ⟨t, ht⟩ : ∃ t, t = c :: r := ⟨_, rfl⟩
      rw [← ht] at hat0 hlen hneq0 hgrd0 hn hp0 ⊢
      clear hV ht hc
      go_enter Tryz.func72, Tryz.ntmps72
      have hlt := fun (W : World) => str_len_ (P := Tryz.prog) W 9 Tryz.underlying9 3 t
      by_cases hb : 1 ≤ t.length ∧ t.length ≤ 18
      · obtain ⟨hb1, hb2⟩ := hb
        have f1 : ¬ ((t.length : Int) < 1) := by omega
        have f2 : ¬ ((18 : Int) < (t.length : Int)) := by omega
        go_wp2_with fail
        go_loop [5, 28] (fun s5 s6 => ∃ (i : Nat) (n : Int), i ≤ t.length ∧ s6 = .int .i64 (i : Int) ∧ s5 = .int .i64 n ∧ Hid (n = dval (t.take i)) ∧ 0 ≤ n ∧ Hid (n < 10 ^ i) ∧ Hid ((t.take i).all digB = true)) (fun _ s6 => t.length - (intOf s6).toNat)
        case atStart => exact ⟨0, 0, Nat.zero_le _, rfl, rfl, hide rfl, Int.le_refl _, hide (by decide), hide rfl⟩
        case round =>
          obtain ⟨i, n, hi, rfl, rfl, hn, hn0, hnb, hall⟩ := hrel
          by_cases hlt2 : i < t.length
          · obtain ⟨x, hx⟩ : ∃ x, t[i]? = some x := ⟨_, List.getElem?_eq_getElem hlt2⟩
            have hat := fun (W : World) => str_at_ (P := Tryz.prog) W 9 Tryz.underlying9 hx
            have hx8 := x.toNat_lt
            have hil : (i : Int) < (t.length : Int) := by omega
            have hn17 := pow_17 (by omega) hnb.out
            cases hd : digB x
            · have HV := hide (numT_bad (l := t) hx hd)
              have hdn : ¬ (48 ≤ x.toNat ∧ x.toNat ≤ 57) := fun h => by rw [digB_true.2 h] at hd; cases hd
              clear hd hx
              by_cases h48 : x.toNat < 48
              · have e1 : (x.toNat : Int) < 48 := by omega
                go_wp2_with fail
                go_ret2
                rw [HV.out]
                exact ⟨rfl, Below.refl _ _⟩
              · have e1 : ¬ (x.toNat : Int) < 48 := by omega
                have e2 : (57 : Int) < (x.toNat : Int) := by omega
                go_wp2_with fail
                go_ret2
                rw [HV.out]
                exact ⟨rfl, Below.refl _ _⟩
            · have hdn := digB_true.1 hd
              have HN : Hid (10 * n + ((x.toNat : Int) - 48) = dval (t.take (i + 1))) := hide (by rw [dval_next hx, hn.out])
              have HB := hide (pow_next (d := (x.toNat : Int) - 48) hnb.out (by omega))
              have HA := hide (digs_next hx hall.out hd)
              have e1 : ¬ (x.toNat : Int) < 48 := by omega
              have e2 : ¬ (57 : Int) < (x.toNat : Int) := by omega
              have w1 : IntKind.u8.wrap ((x.toNat : Int) - 48) = (x.toNat : Int) - 48 := by rw [IntKind.wrap_u8]; omega
              have w2 : IntKind.i64.wrap ((x.toNat : Int) - 48) = (x.toNat : Int) - 48 := by rw [IntKind.wrap_i64]; omega
              have w3 : IntKind.i64.wrap (10 * n) = 10 * n := by rw [IntKind.wrap_i64]; omega
              have w4 : IntKind.i64.wrap (10 * n + ((x.toNat : Int) - 48)) = 10 * n + ((x.toNat : Int) - 48) := by rw [IntKind.wrap_i64]; omega
              have HG : Hid (0 ≤ 10 * n + ((x.toNat : Int) - 48)) := hide (by omega)
              clear hd hx
              go_wp2_with fail
              go_round
              case rel => exact ⟨i + 1, _, by omega, by go_num, rfl, HN, HG.out, HB, HA⟩
              case measure => simp [intOf]; omega
          · have hie : i = t.length := by omega
            have hil : ¬ ((i : Int) < (t.length : Int)) := by omega
            have hn18 := pow_18 (by omega) hnb.out
            rw [hie, List.take_of_length_le (Nat.le_refl _)] at hall hn
            have HV := hide (fun (m : Int) (hm : m = if t.length < (t).length then -dval t else dval t) => numT_end (l := t) hb1 hb2 hall.out hm)
            have HV2 := hide (HV.out n (by rw [if_neg (Nat.lt_irrefl _), hn.out]))
            have f3 : ¬ ((t.length : Int) < (t.length : Int)) := by omega
            have HD := hide (fun W : World => decimal_any n W (by unfold I64; omega))
            obtain ⟨ds, hds⟩ : ∃ ds, ds = decL n := ⟨_, rfl⟩
            rw [← hds] at HD HV2
            clear hds HV hall hn
            by_cases hq : ds = t
            · have hneq := fun (W : World) (u : TypeId) => str_neq (P := Tryz.prog) W u ds (t)
              have hgrd := fun (W : World) (x y : Operand) => guard_neq W x y ds (t)
              have hV3 := HV2.out
              rw [if_pos hq] at hV3
              have HV4 := hide hV3
              rw [decide_eq_false (show ¬ ds ≠ t from fun h => h hq)] at hneq
              clear hq hV3
              go_wp2_with fail
              refine (HD.out _).mono ?_
              rintro e w1 ⟨rfl, hb9⟩
              go_wp2_with fail
              go_ret2
              rw [HV4.out]
              exact ⟨rfl, hb9⟩
            · have hneq := fun (W : World) (u : TypeId) => str_neq (P := Tryz.prog) W u ds (t)
              have hgrd := fun (W : World) (x y : Operand) => guard_neq W x y ds (t)
              have hV3 := HV2.out
              rw [if_neg hq] at hV3
              have HV4 := hide hV3
              rw [decide_eq_true (show ds ≠ t from hq)] at hneq
              clear hq hV3
              go_wp2_with fail
              refine (HD.out _).mono ?_
              rintro e w1 ⟨rfl, hb9⟩
              go_wp2_with fail
              go_ret2
              rw [HV4.out]
              exact ⟨rfl, hb9⟩
      · have HV := hide (numT_no (l := t) hb)
        by_cases h0 : t.length < 1
        · exfalso; omega
        · have f1 : ¬ ((t.length : Int) < 1) := by omega
          have f2 : (18 : Int) < (t.length : Int) := by omega
          go_wp2_with fail
          go_ret2
          rw [HV.out]
          exact ⟨rfl, Below.refl _ _⟩
end Go.Proofs.YtocellbhpjiioaaGreat
