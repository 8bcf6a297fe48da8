/-
  Plain law of moves: what a move takes away, and that moves which are told are possible. Conditions: none; nothing of the program is named here.
  Plain law of simplified codes: they are reduced, and replaying the moves leads to them; moves written and read are the moves. Conditions: none; nothing of the program is named here.
  Contracts: MovesText, of the reference and of the program. Conditions: none beyond the lengths.
-/
import Derived.Test.YtocellbhpjiioaaGreatApply
import Derived.Test.YtocellbhpjiioaaGreatSimpM
import Derived.Test.YtocellbhpjiioaaGreatReadM
import Derived.Test.YtocellbhpjiioaaGreatMovesTextM
namespace Go.Proofs.YtocellbhpjiioaaGreat
open Go.RowKit
set_option linter.unusedVariables false

theorem numsW_one {a : Nat} {g : Nat → Bool} (hg : ∀ j, g j = decide (j = a)) : ∀ n, (numsW g n).length + (if a < n then 1 else 0) = n
  | 0 => rfl
  | n + 1 => by
    have ih := numsW_one hg n
    unfold numsW
    by_cases h : n = a
    · rw [if_pos (by rw [hg]; exact decide_eq_true h), if_pos (by omega)]
      rw [if_neg (by omega)] at ih
      omega
    · rw [if_neg (by rw [hg, decide_eq_false h]; simp), List.length_append, List.length_singleton]
      by_cases h2 : a < n
      · rw [if_pos h2] at ih
        rw [if_pos (by omega)]
        omega
      · rw [if_neg h2] at ih
        rw [if_neg (by omega)]
        omega
theorem numsW_two {a b : Nat} {g : Nat → Bool} (hab : a < b) (hg : ∀ j, g j = (decide (j = a) || decide (j = b))) : ∀ n, (numsW g n).length + (if a < n then 1 else 0) + (if b < n then 1 else 0) = n
  | 0 => rfl
  | n + 1 => by
    have ih := numsW_two hab hg n
    unfold numsW
    by_cases h : n = a
    · rw [if_pos (by rw [hg, decide_eq_true h]; rfl), if_pos (by omega), if_neg (by omega)]
      rw [if_neg (by omega), if_neg (by omega)] at ih
      omega
    · by_cases h3 : n = b
      · rw [if_pos (by rw [hg, decide_eq_true h3]; simp), if_pos (by omega), if_pos (by omega)]
        rw [if_pos (by omega), if_neg (by omega)] at ih
        omega
      · rw [if_neg (by rw [hg, decide_eq_false h, decide_eq_false h3]; simp), List.length_append, List.length_singleton]
        by_cases h2 : a < n
        · rw [if_pos h2] at ih
          rw [if_pos (by omega)]
          by_cases h4 : b < n
          · rw [if_pos h4] at ih
            rw [if_pos (by omega)]
            omega
          · rw [if_neg h4] at ih
            rw [if_neg (by omega)]
            omega
        · rw [if_neg h2, if_neg (by omega)] at ih
          rw [if_neg (by omega), if_neg (by omega)]
          omega
/-- A move takes as many crossings away as its kind says. -/
theorem doM_count {code : List (List Int)} {k a b : Int} (hv : validC code = true) (hc : canB code (k, a, b) = true) :
    ((sumLen (doM code (k, a, b)) / 2 : Nat) : Int) = ((sumLen code / 2 : Nat) : Int) - k ∧ (k = 1 ∨ k = 2) := by
  obtain ⟨h1, h2, h3⟩ := canB_parts hc
  obtain ⟨f1, f2, f3⟩ := formB_parts h1
  have hs := without_sum (moveG (k, a, b)) hv
  unfold doM
  rw [hs, show 2 * (numsW (moveG (k, a, b)) (sumLen code / 2)).length / 2 = (numsW (moveG (k, a, b)) (sumLen code / 2)).length by omega]
  rcases f3 with ⟨rfl, rfl⟩ | ⟨rfl, f4, f5⟩
  · have := numsW_one (a := a.toNat) (g := moveG (1, a, 0)) (fun j => by
      unfold moveG
      rw [Bool.eq_iff_iff]
      simp
      omega) (sumLen code / 2)
    rw [if_pos (by omega)] at this
    omega
  · have := numsW_two (a := a.toNat) (b := b.toNat) (g := moveG (2, a, b)) (by omega) (fun j => by
      unfold moveG
      rw [Bool.eq_iff_iff]
      simp
      omega) (sumLen code / 2)
    rw [if_pos (by omega), if_pos (by omega)] at this
    omega
theorem loops_can {code : List (List Int)} (hv : validC code = true) {x : Int} (hx : x ∈ loopsL code (sumLen code / 2)) : canB code (1, x, 0) = true := by
  obtain ⟨a, h1, h2, rfl⟩ := loopsL_mem hx
  obtain ⟨hs1, hs2, hs3⟩ := valid_sum hv
  have hf : formB (1, (a : Int), ((0 : Nat) : Int)) = true := by
    unfold formB
    simp [inB_true]
    omega
  have := canB_loop hf h1 (by omega) rfl
  rw [h2] at this
  exact this
theorem pairs_can {code : List (List Int)} (hv : validC code = true) {r : List Int} (hr : r ∈ pairsL code (sumLen code / 2) (sumLen code / 2)) : ∃ a b : Nat, r = [(a : Int), (b : Int)] ∧ canB code (2, (a : Int), (b : Int)) = true := by
  obtain ⟨a, b, h1, h2, h3, h4, rfl⟩ := pairsL_mem hr
  obtain ⟨hs1, hs2, hs3⟩ := valid_sum hv
  refine ⟨a, b, rfl, ?_⟩
  have hf : formB (2, (a : Int), (b : Int)) = true := by
    unfold formB
    simp [inB_true]
    omega
  have := canB_pair hf h1 h2 (by decide)
  rw [h4] at this
  exact this
theorem applyR_ok {code : List (List Int)} {m : Int × Int × Int} (h : (applyR code m).2 = 0) : validC code = true ∧ canB code m = true ∧ (applyR code m).1 = doM code m := by
  unfold applyR at h ⊢
  split at h
  · rename_i h1
    split at h
    · rename_i h2
      split at h
      · rename_i h3
        rw [if_pos h1, if_pos h2, if_pos h3]
        exact ⟨h1, h3, rfl⟩
      · cases h
    · cases h
  · cases h
/-- A move is possible just if it is made. -/
theorem applyR_can (code : List (List Int)) (m : Int × Int × Int) : (validC code && canB code m) = decide ((applyR code m).2 = 0) := by
  by_cases h : (applyR code m).2 = 0
  · obtain ⟨h1, h2, _⟩ := applyR_ok h
    rw [h1, h2, decide_eq_true h]
    rfl
  · rw [decide_eq_false h]
    rw [Bool.and_eq_false_iff]
    by_cases h1 : validC code = true
    · right
      by_cases h2 : canB code m = true
      · exfalso
        apply h
        have h3 : formB m = true := by
          cases hf : formB m
          · rw [canB_form hf] at h2; cases h2
          · rfl
        unfold applyR
        rw [if_pos h1, if_pos h3, if_pos h2]
      · simpa using h2
    · left
      simpa using h1
end Go.Proofs.YtocellbhpjiioaaGreat

namespace Go.Proofs.YtocellbhpjiioaaGreat
open Go.RowKit
set_option linter.unusedVariables false

theorem simpF_done : ∀ (f : Nat) (code : List (List Int)) (ms : List (Int × Int × Int)), validC code = true → sumLen code / 2 < f →
    validC (simpF f code ms).1 = true ∧ (firstM (simpF f code ms).1).2 = false ∧ ∃ t, (simpF f code ms).2 = ms ++ t ∧ playM code t = ((simpF f code ms).1, t.length) ∧ t.all formB = true ∧ t.length ≤ sumLen code / 2
  | 0, code, ms, hv, h => by omega
  | f + 1, code, ms, hv, h => by
    rw [simpF]
    split
    · rename_i hf
      obtain ⟨m, hm⟩ : ∃ m, firstM code = (m, true) := ⟨(firstM code).1, by rw [← hf]⟩
      have hlt := firstM_less hv hm
      have hcan := firstM_can hv hm
      rw [hm]
      obtain ⟨h1, h2, t, h3, h4, h5, h6⟩ := simpF_done f (doM code m) (ms ++ [m]) (doM_valid m hv) (by omega)
      refine ⟨h1, h2, m :: t, by rw [h3]; simp, ?_, ?_, ?_⟩
      · rw [playM_yes hcan, h4]
        rfl
      · rw [List.all_cons, h5]
        obtain ⟨k, a, b⟩ := m
        rw [(canB_parts hcan).1]
        rfl
      · rw [List.length_cons]
        omega
    · rename_i hf
      refine ⟨hv, by simpa using hf, [], by simp, ?_, rfl, by simp⟩
      rfl
/-- A code that is simplified is reduced, and replaying the moves leads to it. -/
theorem simpR_done {code : List (List Int)} (h : (simpR code).2.2 = 0) :
    validC code = true ∧ validC (simpR code).1 = true ∧ (firstM (simpR code).1).2 = false ∧ replayR code (simpR code).2.1 = ((simpR code).1, ((simpR code).2.1.length : Int), 0) ∧ listB (simpR code).2.1 = true := by
  unfold simpR at h ⊢
  split at h
  · rename_i hv
    rw [if_pos hv]
    obtain ⟨h1, h2, t, h3, h4, h5, h6⟩ := simpF_done (sumLen code / 2 + 1) code [] hv (by omega)
    obtain ⟨hs1, hs2, hs3⟩ := valid_sum hv
    dsimp only at h1 h2 h3 h4 ⊢
    rw [List.nil_append] at h3
    rw [h3]
    refine ⟨hv, h1, h2, ?_, ?_⟩
    · unfold replayR
      rw [if_pos hv, h4]
    · unfold listB
      rw [h5, decide_eq_true (by omega)]
      rfl
  · cases h
theorem dec_small : ∀ a : Fin 120, numV (decL ((a.val : Nat) : Int)) = (((a.val : Nat) : Int), true) ∧ (44 : UInt8) ∉ decL ((a.val : Nat) : Int) ∧ (32 : UInt8) ∉ decL ((a.val : Nat) : Int) := by decide +kernel
theorem dec_in {a : Int} (h0 : 0 ≤ a) (h1 : a ≤ 119) : numV (decL a) = (a, true) ∧ (44 : UInt8) ∉ decL a ∧ (32 : UInt8) ∉ decL a := by
  have := dec_small ⟨a.toNat, by omega⟩
  rw [show ((a.toNat : Nat) : Int) = a by omega] at this
  exact this
/-- A move that is written reads as itself. -/
theorem mvD_moveT {m : Int × Int × Int} (h : formB m = true) : mvD (moveT m) = m ∧ (32 : UInt8) ∉ moveT m ∧ moveT m ≠ [] := by
  obtain ⟨k, a, b⟩ := m
  obtain ⟨f1, f2, f3⟩ := formB_parts h
  obtain ⟨d1, d2, d3⟩ := dec_in f1 f2
  rcases f3 with ⟨rfl, rfl⟩ | ⟨rfl, f4, f5⟩
  · have e : moveT (1, a, 0) = loop5 ++ decL a := by unfold moveT; rw [if_pos rfl]; rfl
    rw [e]
    refine ⟨?_, fun hm => ?_, by unfold loop5; simp⟩
    · unfold mvD
      have e1 : (loop5 ++ decL a).take 5 = loop5 := List.take_left' rfl
      have e2 : (loop5 ++ decL a).drop 5 = decL a := List.drop_left' rfl
      rw [mvW_five, e1, e2, spl_none d2]
      rw [if_pos ⟨rfl, rfl, by simp [d1]⟩]
      simp [d1]
    · rcases List.mem_append.1 hm with h | h
      · exact absurd h (by decide)
      · exact d3 h
  · obtain ⟨g1, g2, g3⟩ := dec_in (show 0 ≤ b by omega) f5
    have e : moveT (2, a, b) = pair5 ++ (decL a ++ 44 :: decL b) := by
      unfold moveT
      rw [if_neg (show ¬ (2 : Int) = 1 by decide)]
      simp [pair5]
    rw [e]
    refine ⟨?_, fun hm => ?_, by unfold pair5; simp⟩
    · unfold mvD
      have e1 : (pair5 ++ (decL a ++ 44 :: decL b)).take 5 = pair5 := List.take_left' rfl
      have e2 : (pair5 ++ (decL a ++ 44 :: decL b)).drop 5 = decL a ++ 44 :: decL b := List.drop_left' rfl
      rw [mvW_five, e1, e2, spl_first d2, spl_none g2]
      rw [if_neg (fun hx => absurd hx.1 (by decide)), if_pos ⟨rfl, rfl, by simp [d1], by simp [g1]⟩]
      simp [d1, g1]
    · rcases List.mem_append.1 hm with h | h
      · exact absurd h (by decide)
      · rcases List.mem_append.1 h with h | h
        · exact d3 h
        · rcases List.mem_cons.1 h with h | h
          · exact absurd h (by decide)
          · exact g3 h
theorem spl_join {b : UInt8} : ∀ {ws : List (List UInt8)} {n : Nat}, n + 1 = ws.length → (∀ x ∈ ws, b ∉ x) → spl b (joinTo [b] ws ws.length) = ws := by
  intro ws n hn hb
  have key : ∀ (k : Nat) (cur r : List UInt8), k < ws.length → spl2 b [] (joinTo [b] ws (k + 1) ++ b :: r) = ws.take (k + 1) ++ spl2 b [] r := by
    intro k
    induction k with
    | zero =>
      intro cur r hk
      have e : ws[0]? = some ws[0] := List.getElem?_eq_getElem hk
      rw [joinTo_next [b] e, joinTo_zero, List.nil_append, if_pos rfl, List.nil_append, spl2_first _ _ (hb _ (List.mem_of_getElem? e)), List.take_add_one, e]
      rfl
    | succ k ih =>
      intro cur r hk
      have e : ws[k + 1]? = some ws[k + 1] := List.getElem?_eq_getElem hk
      rw [joinTo_next [b] e, if_neg (by omega), List.append_assoc, List.append_assoc, List.singleton_append, ih cur _ (by omega), spl2_first _ _ (hb _ (List.mem_of_getElem? e))]
      have e2 := List.take_add_one (l := ws) (i := k + 1)
      rw [e] at e2
      rw [e2, List.append_assoc]
      rfl
  rcases n with _ | n
  · have e : ws[0]? = some ws[0] := List.getElem?_eq_getElem (by omega)
    rw [← hn, joinTo_next [b] e, joinTo_zero, List.nil_append, if_pos rfl, List.nil_append, spl_none (hb _ (List.mem_of_getElem? e))]
    exact (List.take_of_length_le (l := ws) (i := 1) (by omega)).symm.trans (by rw [List.take_add_one, e]; rfl) |>.symm
  · have e : ws[n + 1]? = some ws[n + 1] := List.getElem?_eq_getElem (by omega)
    rw [← hn, joinTo_next [b] e, if_neg (by omega), List.singleton_append]
    unfold spl
    rw [key n [] _ (by omega), spl2_none _ (hb _ (List.mem_of_getElem? e))]
    have := (List.take_of_length_le (l := ws) (i := n + 1 + 1) (by omega))
    rw [List.take_add_one, e] at this
    simpa using this
theorem map_mvD {ms : List (Int × Int × Int)} (h : ms.all formB = true) : mvsW (ms.map moveT) = ms := by
  unfold mvsW
  rw [List.map_map]
  conv => rhs; rw [← List.map_id ms]
  refine List.map_congr_left fun m hm => ?_
  exact (mvD_moveT (List.all_eq_true.1 h m hm)).1
/-- Moves that are written read as themselves. -/
theorem read_text {ms : List (Int × Int × Int)} (h : listB ms = true) : readR (movesT ms) = (ms, true) ∧ (ms = [] ↔ movesT ms = []) := by
  have hall : ms.all formB = true := by unfold listB at h; rw [Bool.and_eq_true] at h; exact h.1
  unfold movesT
  rw [if_pos h]
  cases ms with
  | nil => exact ⟨readR_nil, by simp [joinTo]⟩
  | cons m t =>
    have hw : ∀ x ∈ (m :: t).map moveT, (32 : UInt8) ∉ x := fun x hx => by
      obtain ⟨q, hq, rfl⟩ := List.mem_map.1 hx
      exact (mvD_moveT (List.all_eq_true.1 hall q hq)).2.1
    have hs := spl_join (b := 32) (ws := (m :: t).map moveT) (n := t.length) (by simp) hw
    rw [List.length_map] at hs
    have hne : joinTo [32] ((m :: t).map moveT) (m :: t).length ≠ [] := by
      intro e
      rw [e] at hs
      have h2 : spl 32 ([] : List UInt8) = [[]] := rfl
      rw [h2] at hs
      have h3 : moveT m = [] := by
        rw [List.map_cons] at hs
        injection hs with h3 _
        exact h3.symm
      exact (mvD_moveT (List.all_eq_true.1 hall m List.mem_cons_self)).2.2 h3
    have hm := map_mvD hall
    refine ⟨?_, ⟨fun h => (List.cons_ne_nil _ _ h).elim, fun h => (hne h).elim⟩⟩
    rw [readR_ok hne (by rw [hs, hm]; exact h), hs, hm]
end Go.Proofs.YtocellbhpjiioaaGreat

namespace Go.Proofs.YtocellbhpjiioaaGreat
open Go.RowKit
set_option linter.unusedVariables false

theorem take_nextMT {α : Type} {xs : List α} {k : Nat} {x : α} (h : xs[k]? = some x) : xs.take k ++ [x] = xs.take (k + 1) := by
  rw [List.take_add_one, h]; rfl
theorem specMovesText_any (A : Option Addr) (c : Nat) (ms : List (Int × Int × Int)) (w : World) (hms : RG mvE w A ms) (hn : ms.length ≤ 1048576) :
    Calls Tryz.prog 21 #[.slice A ms.length c] w (RetV w (str (movesT ms))) := by
  unfold movesT
  cases hv : listB ms
  · go_enter Tryz.func21, Tryz.ntmps21
    go_wp2_with fail
    refine (l16List_any _ _ ms _ hms (by omega)).mono ?_
    rw [hv]
    rintro e w1 ⟨rfl, hb⟩
    go_wp2_with fail
    go_ret
    exact ⟨rfl, hb⟩
  · go_enter Tryz.func21, Tryz.ntmps21
    go_wp2_with fail
    refine (l16List_any _ _ ms _ hms (by omega)).mono ?_
    rw [hv]
    rintro e w1 ⟨rfl, hb⟩
    go_wp2_with fail
    refine (l16Text_any _ _ ms _ (hms.below hb) hv).mono ?_
    rintro e w2 ⟨rfl, hb2⟩
    go_wp2_with fail
    go_ret
    exact ⟨rfl, hb.trans (hb2.mono hb.size)⟩

set_option maxRecDepth 100000 in
set_option maxHeartbeats 8000000 in
theorem implMovesText_any (A : Option Addr) (c : Nat) (ms : List (Int × Int × Int)) (w : World) (hms : RG mvE w A ms) (hn : ms.length ≤ 1048576) :
    Calls Tryz.prog 13 #[.slice A ms.length c] w (RetV w (str (movesT ms))) := by
  by_cases hl : ms.length ≤ 120
  · have he : Own strE (w.alloc (.cells #[] 9)) w.heap.size (some ⟨w.heap.size, 0, none⟩) 0 [] := Own.new (E := strE) w [] #[] rfl (Nat.le_refl _) (by simp)
    have hl' : (ms.length : Int) ≤ 120 := by omega
    go_enter Tryz.func13, Tryz.ntmps13
    go_wp2_with fail
    go_loopw [3, 12] (fun o i wr => ∃ (k : Nat) (A1 : Option Addr) (c1 : Nat) (zs : List (List UInt8)), k ≤ ms.length ∧ i = .int .i64 k ∧ o = .slice A1 zs.length c1 ∧ Hid ((ms.take k).all formB = true) ∧ Hid (zs = (ms.map moveT).take k) ∧ Own strE wr w.heap.size A1 c1 zs ∧ Below w.heap.size w wr) (fun _ i _ => ms.length - (intOf i).toNat)
    case atStart => exact ⟨0, _, 0, [], Nat.zero_le _, rfl, rfl, hide (by simp), hide rfl, he, (Below.refl _ _).alloc (Nat.le_refl _) _⟩
    case round =>
      obtain ⟨k, A1, c1, zs, hk, rfl, rfl, hall, hzs, own, hB⟩ := hrel
      clear he
      have hz := hB.size
      have hzl : zs.length ≤ 120 := by rw [hzs.out, List.length_take]; omega
      by_cases hlt : k < ms.length
      · obtain ⟨b, off, x, y, z, rfl, hb, hx, hc, hd, he⟩ := mv_at (hms.below hB) hlt
        have HX := hide hx
        have hkl : (k : Int) < (ms.length : Int) := by omega
        have q1 : Bx (wr.alloc (.cells #[.int .i64 x, .int .i64 y, .int .i64 z] 46)) wr.heap.size 46 #[.int .i64 x, .int .i64 y, .int .i64 z] := Bx.new _ _ _
        have own1 := own.alloc (.cells #[.int .i64 x, .int .i64 y, .int .i64 z] 46)
        have hA1 : blk A1 ≠ some wr.heap.size := fun e => by have := (own.ge e).2; omega
        have hB1 : Below w.heap.size w (wr.alloc (.cells #[.int .i64 x, .int .i64 y, .int .i64 z] 46)) := hB.alloc hz _
        clear hx
        cases hp : formB (x, y, z)
        · have HV := hide (show movesT ms = [] by unfold movesT listB; rw [all_badM HX.out hp]; rfl)
          obtain ⟨p0, p1, p2⟩ := q1.three
          go_wp2_with fail
          refine (hasForm_any x y z _).mono ?_
          rw [hp]
          rintro e w2 ⟨rfl, hb2⟩
          go_wp2_with fail
          go_ret
          rw [HV.out]
          exact ⟨rfl, hB1.trans (hb2.mono hB1.size)⟩
        · have HA := hide (all_nextM (p := formB) HX.out hall.out hp)
          have iyz := formB_i64 hp
          have iy : I64 y := iyz.1
          have iz : I64 z := iyz.2.2
          have hpl := moveT_len (m := (x, y, z)) iy iz
          have ly := decL_len iy
          have lz := decL_len iz
          have HN : Hid (zs ++ [moveT (x, y, z)] = (ms.map moveT).take (k + 1)) := hide (by rw [hzs.out]; exact take_nextMT (by rw [List.getElem?_map, HX.out]; rfl))
          have s1 := str_cells (moveT (x, y, z))
          unfold Value.cells at s1
          obtain ⟨p0, p1, p2⟩ := q1.three
          clear iyz hall hzs
          by_cases hx1 : x = 1
          · have hM : moveT (x, y, z) = [108, 111, 111, 112, 58] ++ decL y := by simp [moveT, hx1]
            have ha1 : ∀ W : World, (binOp .add 9 (.string ⟨#[108, 111, 111, 112, 58]⟩) (str (decL y))).run Tryz.prog W = .ok (str (moveT (x, y, z))) W := fun W => by rw [hM]; exact str_add W _ [108, 111, 111, 112, 58] _ (by simp; omega)
            have t1 : (x == 1) = true := by simp [hx1]
            have hX := hide hx1
            clear hM hx1
            go_wp2_with fail
            refine (hasForm_any x y z _).mono ?_
            rw [hp]
            rintro e w2 ⟨rfl, hb2⟩
            have hB2 := hB1.trans (hb2.mono hB1.size)
            have own2 := own1.below hb2
            have q2 := q1.below hb2
            obtain ⟨r0, r1, r2⟩ := q2.three
            have hz2 := hB2.size
            clear own own1 q1 p0 p1 p2 hb2 hB1
            go_wp2_with fail
            refine (decimal_any y _ iy).mono ?_
            rintro e w3 ⟨rfl, hb3⟩
            have hB3 := hB2.trans (hb3.mono hz2)
            have own3 := own2.below hb3
            have hz3 := hB3.size
            clear own2 q2 r0 r1 r2 hb3 hB2
            go_wp2_with (at_builtin; refine wpList_append_row strE rfl (.tmp 36) (.tmp 41) rfl w.heap.size A1 c1 zs rfl (own3.alloc _) (some ⟨w3.heap.size, 0, none⟩) 1 [moveT (x, y, z)] rfl (RG.fresh (E := strE) _ _ rfl _ #[str (moveT (x, y, z))] rfl _) (by simp; omega) (by simp [strE]; omega) (by simp; omega) _ rfl ?_; intro A4 c4 w4 own4 hg4 hb4)
            go_roundw
            case rel => exact ⟨k + 1, A4, c4, _, by omega, by go_num, by simp, HA, HN, own4, (hB3.alloc hz3 _).grown hg4 (by simp; omega) (fun k hk => (own3.ge hk).1)⟩
            case measure => simp [intOf]; omega
          · have t1 : (x == 1) = false := by simp [hx1]
            obtain ⟨s1, hs1⟩ : ∃ s1, s1 = [112, 97, 105, 114, 58] ++ decL y := ⟨_, rfl⟩
            obtain ⟨s2, hs2⟩ : ∃ s2, s2 = s1 ++ [44] := ⟨_, rfl⟩
            have l1 : s1.length ≤ 25 := by rw [hs1]; simp; omega
            have l2 : s2.length ≤ 26 := by rw [hs2]; simp; omega
            have hM : moveT (x, y, z) = s2 ++ decL z := by simp [moveT, hx1, hs2, hs1]
            have ha1 : ∀ W : World, (binOp .add 9 (.string ⟨#[112, 97, 105, 114, 58]⟩) (str (decL y))).run Tryz.prog W = .ok (str s1) W := fun W => by rw [hs1]; exact str_add W _ [112, 97, 105, 114, 58] _ (by simp; omega)
            have ha2 : ∀ W : World, (binOp .add 9 (str s1) (.string ⟨#[44]⟩)).run Tryz.prog W = .ok (str s2) W := fun W => by rw [hs2]; exact str_add W _ _ [44] (by simp; omega)
            have ha3 : ∀ W : World, (binOp .add 9 (str s2) (str (decL z))).run Tryz.prog W = .ok (str (moveT (x, y, z))) W := fun W => by rw [hM]; exact str_add W _ _ _ (by omega)
            have hX := hide hx1
            clear hs1 hs2 l1 l2 hM hx1
            go_wp2_with fail
            refine (hasForm_any x y z _).mono ?_
            rw [hp]
            rintro e w2 ⟨rfl, hb2⟩
            have hB2 := hB1.trans (hb2.mono hB1.size)
            have own2 := own1.below hb2
            have q2 := q1.below hb2
            obtain ⟨r0, r1, r2⟩ := q2.three
            have hz2 := hB2.size
            have hb4 := q2.lt
            clear own own1 q1 p0 p1 p2 hb2 hB1
            go_wp2_with fail
            have C0 : Below w2.heap.size w2 w2.drew := (Below.refl _ _).drew
            go_region_held3 (fun w' => w'.cell? ⟨wr.heap.size, 0, none⟩ = some (.int .i64 x) ∧ w'.cell? ⟨wr.heap.size, 1, none⟩ = some (.int .i64 y) ∧ w'.cell? ⟨wr.heap.size, 2, none⟩ = some (.int .i64 z))
              (first | exact q2.three | exact (q2.below CX).three | exact (q2.below CY).three | exact ((q2.below CX).alloc _).three | exact ((q2.below CY).alloc _).three | exact (((q2.below CX).alloc _).grown hg2 (.inr hA1)).three | exact (((q2.below CY).alloc _).grown hg2 (.inr hA1)).three | fail)
              (first
                | (go_at_call_of 38 (Value.int .i64 y); refine (RetV.since (decimal_any y _ iy) (W0 := w2) (B0 := w2.heap.size) (by first | exact CY | exact C0) (by first | exact CY.size | exact C0.size)).mono ?_; rintro e wx ⟨rfl, CX⟩)
                | (go_at_call_of 38 (Value.int .i64 z); refine (RetV.since (decimal_any z _ iz) (W0 := w2) (B0 := w2.heap.size) (by first | exact CX | exact C0) (by first | exact CX.size | exact C0.size)).mono ?_; rintro e wy ⟨rfl, CY⟩)
                | (refine step_append_row strE rfl (.tmp 16) (.tmp 26) rfl w.heap.size A1 c1 zs rfl ((own2.below CX).alloc _) (some ⟨wx.heap.size, 0, none⟩) 1 [moveT (x, y, z)] rfl (RG.fresh (E := strE) _ _ rfl _ #[str (moveT (x, y, z))] rfl _) (by simp; omega) (by simp [strE]; omega) (by simp; have := CX.size; omega) _ rfl ?_; intro A2 c2 w4 own4 hg2 hbb2)
                | (refine step_append_row strE rfl (.tmp 16) (.tmp 26) rfl w.heap.size A1 c1 zs rfl ((own2.below CY).alloc _) (some ⟨wy.heap.size, 0, none⟩) 1 [moveT (x, y, z)] rfl (RG.fresh (E := strE) _ _ rfl _ #[str (moveT (x, y, z))] rfl _) (by simp; omega) (by simp [strE]; omega) (by simp; have := CY.size; omega) _ rfl ?_; intro A2 c2 w4 own4 hg2 hbb2)
                | fail)
            all_goals go_wp2_with fail
            all_goals go_roundw
            case rel => first
              | exact ⟨k + 1, A2, c2, _, by omega, by go_num, by simp, HA, HN, own4, ((Below.trans hB2 (CX.mono hz2)).alloc (Nat.le_trans hz2 CX.size) _).grown hg2 (by simp; have := CX.size; omega) (fun k hk => (own2.ge hk).1)⟩
              | exact ⟨k + 1, A2, c2, _, by omega, by go_num, by simp, HA, HN, own4, ((Below.trans hB2 (CY.mono hz2)).alloc (Nat.le_trans hz2 CY.size) _).grown hg2 (by simp; have := CY.size; omega) (fun k hk => (own2.ge hk).1)⟩
            case measure => simp [intOf]; omega
      · have hzs' := hzs.out
        have hall' := hall.out
        rw [List.take_of_length_le (by rw [List.length_map]; omega)] at hzs'
        rw [List.take_of_length_le (by omega)] at hall'
        have hL : listB ms = true := by unfold listB; rw [hall', Bool.true_and]; exact decide_eq_true hl
        have hl2 : zs.length = ms.length := by rw [hzs', List.length_map]
        have HZ : Hid (joinTo [32] zs zs.length = movesT ms) := hide (by unfold movesT; rw [if_pos hL, hl2, hzs'])
        have hall2 : ∀ x ∈ zs, x.length ≤ 46 := by rw [hzs']; exact moveT_all hL
        have HA := hide hall2
        clear hall2 hl2 hzs hzs' hall hall' hL
        go_wp2_with fail
        refine (joined_any A1 c1 zs [32] 46 _ own.rd (by omega) (by simp) HA.out (by omega)).mono ?_
        rintro e w2 ⟨rfl, hb2⟩
        go_wp2_with fail
        go_ret
        refine ⟨congrArg (fun l => Ending.returned (str l)) HZ.out, hB.trans (hb2.mono hz)⟩
  · have HV := hide (show movesT ms = [] by unfold movesT listB; rw [decide_eq_false hl, Bool.and_false]; rfl)
    have hl' : (120 : Int) < (ms.length : Int) := by omega
    go_enter Tryz.func13, Tryz.ntmps13
    go_wp2_with fail
    go_ret
    rw [HV.out]
    exact ⟨rfl, Below.refl _ _⟩
end Go.Proofs.YtocellbhpjiioaaGreat
