/-
  Texts joined: plain lemmas, and the contract of the program's 'joined'. Conditions: the lengths are far below the machine's.
  Contracts: whether a move has its form; MovesText, of the reference and of the program. Conditions: none beyond the lengths.
-/
import Derived.Test.YtocellbhpjiioaaGreatDec
import Derived.Test.YtocellbhpjiioaaGreatMoves
namespace Go.Proofs.YtocellbhpjiioaaGreat
open Go.RowKit
set_option linter.unusedVariables false

/-- the first k texts, with sep between them -/
def joinTo (sep : List UInt8) (l : List (List UInt8)) (k : Nat) : List UInt8 := (List.range k).flatMap fun i => (if i = 0 then [] else sep) ++ l.getD i []
theorem joinTo_zero (sep : List UInt8) (l : List (List UInt8)) : joinTo sep l 0 = [] := rfl
theorem joinTo_next (sep : List UInt8) {l : List (List UInt8)} {k : Nat} {x : List UInt8} (h : l[k]? = some x) : joinTo sep l (k + 1) = joinTo sep l k ++ ((if k = 0 then [] else sep) ++ x) := by
  unfold joinTo
  rw [List.range_succ, List.flatMap_append]
  simp [List.getD, h]
theorem joinTo_first (sep : List UInt8) {l : List (List UInt8)} {x : List UInt8} (h : l[0]? = some x) : joinTo sep l 1 = x := by
  rw [joinTo_next sep h, joinTo_zero]
  simp
theorem joinTo_more (sep : List UInt8) {l : List (List UInt8)} {k : Nat} {x : List UInt8} (h : l[k]? = some x) (hk : k ≠ 0) : joinTo sep l (k + 1) = joinTo sep l k ++ sep ++ x := by
  rw [joinTo_next sep h, if_neg hk, List.append_assoc]
theorem joinTo_le (sep : List UInt8) (l : List (List UInt8)) (s m : Nat) (hs : sep.length ≤ s) (hl : ∀ x ∈ l, x.length ≤ m) : ∀ k, (joinTo sep l k).length ≤ k * (s + m)
  | 0 => by simp [joinTo_zero]
  | k + 1 => by
    have ih := joinTo_le sep l s m hs hl k
    have : joinTo sep l (k + 1) = joinTo sep l k ++ ((if k = 0 then [] else sep) ++ l.getD k []) := by
      unfold joinTo
      rw [List.range_succ, List.flatMap_append]
      simp
    rw [this, List.length_append, List.length_append, Nat.add_mul, Nat.one_mul]
    have h1 : (if k = 0 then [] else sep).length ≤ s := by split <;> simp [hs]
    have h2 : (l.getD k []).length ≤ m := by
      rw [List.getD_eq_getElem?_getD]
      cases hx : l[k]? with
      | none => simp
      | some x => exact hl x (List.mem_of_getElem? hx)
    omega

/-- A contract told from an earlier world on. -/
theorem RetV.since {P : Program} {f : FuncId} {args : Array Value} {B0 : Nat} {W0 W : World} {v : Value} (hc : Calls P f args W (RetV W v)) (h0 : Below B0 W0 W) (hB : B0 ≤ W.heap.size) : Calls P f args W fun e w' => e = .returned v ∧ Below B0 W0 w' :=
  hc.mono fun _ _ h => ⟨h.1, h0.trans (h.2.mono hB)⟩

set_option maxHeartbeats 1000000 in
theorem joined_any (A : Option Addr) (c : Nat) (parts : List (List UInt8)) (sep : List UInt8) (m : Nat) (w : World) (hp : RG strE w A parts) (hn : parts.length ≤ 1048576) (hs : sep.length ≤ 16) (hl : ∀ x ∈ parts, x.length ≤ m) (hm : m ≤ 1048576) :
    Calls Tryz.prog 39 #[.slice A parts.length c, str sep] w (RetV w (str (joinTo sep parts parts.length))) := by
  have hlen := joinTo_le sep parts 16 m hs hl
  have HL := hide hlen
  have HM := hide hl
  clear hlen hl
  go_enter Tryz.func39, Tryz.ntmps39
  go_wp2
  go_loop [5, 10] (fun o i => ∃ k : Nat, k ≤ parts.length ∧ i = .int .i64 k ∧ o = str (joinTo sep parts k)) (fun _ i => parts.length - (intOf i).toNat)
  case atStart => exact ⟨0, Nat.zero_le _, rfl, rfl⟩
  case round =>
    obtain ⟨k, hk, rfl, rfl⟩ := hrel
    by_cases hlt : k < parts.length
    · obtain ⟨b, off, x, rfl, hb, hx, hcc⟩ := hp.row hlt
      have hc : w.cell? ⟨b, off + k, none⟩ = some (str x) := by
        have := hcc 0 _ rfl
        simpa [strE] using this
      have hk1 := HL.out k
      have hx1 := HM.out x (List.mem_of_getElem? hx)
      have hmul : k * (16 + m) ≤ 1048576 * 1048592 := Nat.mul_le_mul (by omega) (by omega)
      by_cases h0 : k = 0
      · have hj := joinTo_first sep (h0 ▸ hx)
        have hj0 : joinTo sep parts k = [] := by rw [h0]; rfl
        have ha : ∀ W : World, (binOp .add 9 (str (joinTo sep parts k)) (str x)).run Tryz.prog W = .ok (str (joinTo sep parts (k + 1))) W := fun W => by
          have h1 : joinTo sep parts (k + 1) = joinTo sep parts k ++ x := by rw [hj0, h0]; exact hj
          rw [h1]
          exact str_add W _ _ _ (by omega)
        have hg : ¬ (0 : Int) < (k : Int) := by omega
        clear hj hj0 h0 hx hcc
        go_wp2_with fail
        go_round
        case rel => exact ⟨k + 1, by omega, by go_num, rfl⟩
        case measure => simp [intOf]; omega
      · have hj := joinTo_more sep hx h0
        have ha1 : ∀ W : World, (binOp .add 9 (str (joinTo sep parts k)) (str sep)).run Tryz.prog W = .ok (str (joinTo sep parts k ++ sep)) W := fun W => str_add W _ _ _ (by omega)
        have ha2 : ∀ W : World, (binOp .add 9 (str (joinTo sep parts k ++ sep)) (str x)).run Tryz.prog W = .ok (str (joinTo sep parts (k + 1))) W := fun W => by
          rw [hj]
          exact str_add W _ _ _ (by rw [List.length_append]; omega)
        have hg : (0 : Int) < (k : Int) := by omega
        clear hj h0 hx hcc
        go_wp2_with fail
        go_round
        case rel => exact ⟨k + 1, by omega, by go_num, rfl⟩
        case measure => simp [intOf]; omega
    · obtain rfl : k = parts.length := by omega
      go_wp2_with fail
      go_ret
      exact ⟨rfl, Below.refl _ _⟩
end Go.Proofs.YtocellbhpjiioaaGreat

namespace Go.Proofs.YtocellbhpjiioaaGreat
open Go.RowKit
set_option linter.unusedVariables false

def formB (m : Int × Int × Int) : Bool := inB m.2.1 0 119 && (if m.1 = 1 then decide (m.2.2 = 0) else (decide (m.1 = 2) && inB m.2.2 (m.2.1 + 1) 119))
set_option maxHeartbeats 2000000 in
theorem l16Form_any (k a b : Int) (w : World) : Calls Tryz.prog 65 #[.agg #[.int .i64 k, .int .i64 a, .int .i64 b]] w (RetV w (.bool (formB (k, a, b)))) := by
  have hB : Below w.heap.size w (w.alloc (.cells #[.int .i64 k, .int .i64 a, .int .i64 b] 46)) := (Below.refl _ _).alloc (Nat.le_refl _) _
  cases ha : inB a 0 119
  · have HV := hide (show formB (k, a, b) = false by simp [formB, ha])
    go_enter Tryz.func65, Tryz.ntmps65
    go_wp2_with (go_at_call 59; refine (l00In_any _ _ _ _).mono ?_; rintro e w' ⟨rfl, rfl⟩)
    go_ret
    rw [HV.out]
    exact ⟨rfl, hB⟩
  · obtain ⟨a0, a1⟩ := inB_true.1 ha
    by_cases hk : k = 1
    · have HV := hide (show formB (k, a, b) = (b == 0) by simp [formB, ha, hk]; rfl)
      have t0 : (k == 1) = true := by simp [hk]
      clear hk
      go_enter Tryz.func65, Tryz.ntmps65
      go_wp2_with (go_at_call 59; refine (l00In_any _ _ _ _).mono ?_; rintro e w' ⟨rfl, rfl⟩)
      go_ret
      rw [HV.out]
      exact ⟨rfl, hB⟩
    · have t0 : (k == 1) = false := by simp [hk]
      by_cases hk2 : k = 2
      · have HV := hide (show formB (k, a, b) = inB b (a + 1) 119 by simp [formB, ha, hk2])
        have t1 : (k == 2) = true := by simp [hk2]
        clear hk hk2
        go_enter Tryz.func65, Tryz.ntmps65
        go_wp2_with (go_at_call 59; refine (l00In_any _ _ _ _).mono ?_; rintro e w' ⟨rfl, rfl⟩)
        go_ret
        rw [HV.out]
        exact ⟨rfl, hB⟩
      · have HV := hide (show formB (k, a, b) = false by simp [formB, ha, hk, hk2])
        have t1 : (k == 2) = false := by simp [hk2]
        clear hk hk2
        go_enter Tryz.func65, Tryz.ntmps65
        go_wp2_with (go_at_call 59; refine (l00In_any _ _ _ _).mono ?_; rintro e w' ⟨rfl, rfl⟩)
        go_ret
        rw [HV.out]
        exact ⟨rfl, hB⟩
set_option maxHeartbeats 2000000 in
theorem hasForm_any (k a b : Int) (w : World) : Calls Tryz.prog 37 #[.agg #[.int .i64 k, .int .i64 a, .int .i64 b]] w (RetV w (.bool (formB (k, a, b)))) := by
  have hB : Below w.heap.size w (w.alloc (.cells #[.int .i64 k, .int .i64 a, .int .i64 b] 46)) := (Below.refl _ _).alloc (Nat.le_refl _) _
  by_cases hk : k = 1
  · have t0 : (k == 1) = true := by simp [hk]
    cases ha : inB a 0 119
    · have HV := hide (show formB (k, a, b) = false by simp [formB, ha])
      clear hk
      go_enter Tryz.func37, Tryz.ntmps37
      go_wp2_with (go_at_call 53; refine (inRange_any _ _ _ _).mono ?_; rintro e w' ⟨rfl, rfl⟩)
      go_ret
      rw [HV.out]
      exact ⟨rfl, hB⟩
    · have HV := hide (show formB (k, a, b) = (b == 0) by simp [formB, ha, hk]; rfl)
      clear hk
      go_enter Tryz.func37, Tryz.ntmps37
      go_wp2_with (go_at_call 53; refine (inRange_any _ _ _ _).mono ?_; rintro e w' ⟨rfl, rfl⟩)
      go_ret
      rw [HV.out]
      exact ⟨rfl, hB⟩
  · have t0 : (k == 1) = false := by simp [hk]
    by_cases hk2 : k = 2
    · have t1 : (k == 2) = true := by simp [hk2]
      cases ha : inB a 0 119
      · have HV := hide (show formB (k, a, b) = false by simp [formB, ha])
        clear hk hk2
        go_enter Tryz.func37, Tryz.ntmps37
        go_wp2_with (go_at_call 53; refine (inRange_any _ _ _ _).mono ?_; rintro e w' ⟨rfl, rfl⟩)
        go_ret
        rw [HV.out]
        exact ⟨rfl, hB⟩
      · obtain ⟨a0, a1⟩ := inB_true.1 ha
        have HV := hide (show formB (k, a, b) = inB b (a + 1) 119 by simp [formB, ha, hk2])
        clear hk hk2
        go_enter Tryz.func37, Tryz.ntmps37
        go_wp2_with (go_at_call 53; refine (inRange_any _ _ _ _).mono ?_; rintro e w' ⟨rfl, rfl⟩)
        go_ret
        rw [HV.out]
        exact ⟨rfl, hB⟩
    · have t1 : (k == 2) = false := by simp [hk2]
      have HV := hide (show formB (k, a, b) = false by simp [formB, hk, hk2])
      clear hk hk2
      go_enter Tryz.func37, Tryz.ntmps37
      go_wp2
      go_ret
      rw [HV.out]
      exact ⟨rfl, hB⟩

def listB (ms : List (Int × Int × Int)) : Bool := ms.all formB && decide (ms.length ≤ 120)
theorem all_nextM {α : Type} {p : α → Bool} {xs : List α} {k : Nat} {x : α} (hx : xs[k]? = some x) (h : (xs.take k).all p = true) (hp : p x = true) : (xs.take (k + 1)).all p = true := by
  rw [List.take_add_one, hx, List.all_append, h]
  simp [hp]
theorem all_badM {α : Type} {p : α → Bool} {xs : List α} {k : Nat} {x : α} (hx : xs[k]? = some x) (hp : p x = false) : xs.all p = false := by
  rw [Bool.eq_false_iff]
  intro h
  rw [List.all_eq_true] at h
  rw [h x (List.mem_of_getElem? hx)] at hp
  cases hp
set_option maxHeartbeats 1000000 in
theorem l16List_any (A : Option Addr) (c : Nat) (ms : List (Int × Int × Int)) (w : World) (hms : RG mvE w A ms) (hn : ms.length ≤ 2097152) :
    Calls Tryz.prog 42 #[.slice A ms.length c] w (RetV w (.bool (listB ms))) := by
  go_enter Tryz.func42, Tryz.ntmps42
  go_wp2
  go_loopw [3] (fun i wr => ∃ k : Nat, k ≤ ms.length ∧ i = .int .i64 k ∧ Hid ((ms.take k).all formB = true) ∧ Below w.heap.size w wr) (fun i _ => ms.length - (intOf i).toNat)
  case atStart => exact ⟨0, Nat.zero_le _, rfl, hide (by simp), Below.refl _ _⟩
  case round =>
    obtain ⟨k, hk, rfl, hall, hB⟩ := hrel
    have hz := hB.size
    by_cases hlt : k < ms.length
    · obtain ⟨b, off, x, y, z, rfl, hb, hx, hc, hd, he⟩ := mv_at (hms.below hB) hlt
      have HX := hide hx
      clear hx
      cases hp : formB (x, y, z)
      · have HV := hide (show listB ms = false by unfold listB; rw [all_badM HX.out hp]; rfl)
        go_wp2_with fail
        refine (l16Form_any x y z _).mono ?_
        rintro e w2 ⟨rfl, hb2⟩
        rw [hp]
        go_wp2_with fail
        go_ret
        rw [HV.out]
        exact ⟨rfl, hB.trans (hb2.mono hz)⟩
      · have HA := hide (all_nextM (p := formB) HX.out hall.out hp)
        go_wp2_with fail
        refine (l16Form_any x y z _).mono ?_
        rintro e w2 ⟨rfl, hb2⟩
        rw [hp]
        go_wp2_with fail
        go_roundw
        case rel => exact ⟨k + 1, by omega, by go_num, HA, hB.trans (hb2.mono hz)⟩
        case measure => simp [intOf]; omega
    · have hall' := hall.out
      rw [List.take_of_length_le (by omega)] at hall'
      have HV := hide (show listB ms = decide ((ms.length : Int) ≤ 120) by unfold listB; rw [hall', Bool.true_and]; apply decide_eq_decide.2; omega)
      clear hall hall'
      go_wp2_with fail
      go_ret
      rw [HV.out]
      exact ⟨by simp, hB⟩

def moveT (m : Int × Int × Int) : List UInt8 := if m.1 = 1 then [108, 111, 111, 112, 58] ++ decL m.2.1 else [112, 97, 105, 114, 58] ++ decL m.2.1 ++ [44] ++ decL m.2.2
def movesT (ms : List (Int × Int × Int)) : List UInt8 := if listB ms = true then joinTo [32] (ms.map moveT) ms.length else []
theorem moveT_len {m : Int × Int × Int} (h1 : I64 m.2.1) (h2 : I64 m.2.2) : (moveT m).length ≤ 46 := by
  have := decL_len h1
  have := decL_len h2
  unfold moveT
  split
  · rw [List.length_append]; simp; omega
  · rw [List.length_append, List.length_append, List.length_append]; simp; omega
theorem formB_i64 {m : Int × Int × Int} (h : formB m = true) : I64 m.2.1 ∧ (m.1 ≠ 1 → I64 m.2.2) ∧ I64 m.2.2 := by
  unfold formB at h
  rw [Bool.and_eq_true] at h
  have h1 := inB_true.1 h.1
  have h2 := h.2
  have h3 : I64 m.2.2 := by
    split at h2
    · have := of_decide_eq_true h2
      rw [this]
      exact ⟨by omega, by omega⟩
    · rw [Bool.and_eq_true] at h2
      have := inB_true.1 h2.2
      exact ⟨by omega, by omega⟩
  exact ⟨⟨by omega, by omega⟩, fun _ => h3, h3⟩
theorem listB_at {ms : List (Int × Int × Int)} (h : listB ms = true) {k : Nat} {m : Int × Int × Int} (hk : ms[k]? = some m) : formB m = true := by
  unfold listB at h
  rw [Bool.and_eq_true, List.all_eq_true] at h
  exact h.1 m (List.mem_of_getElem? hk)
theorem moveT_all {ms : List (Int × Int × Int)} (h : listB ms = true) : ∀ x ∈ ms.map moveT, x.length ≤ 46 := by
  intro x hx
  rw [List.mem_map] at hx
  obtain ⟨m, hm, rfl⟩ := hx
  unfold listB at h
  rw [Bool.and_eq_true, List.all_eq_true] at h
  have := formB_i64 (h.1 m hm)
  exact moveT_len this.1 this.2.2

set_option maxRecDepth 100000 in
set_option maxHeartbeats 8000000 in
theorem l16Text_any (A : Option Addr) (c : Nat) (ms : List (Int × Int × Int)) (w : World) (hms : RG mvE w A ms) (hv : listB ms = true) :
    Calls Tryz.prog 45 #[.slice A ms.length c] w (RetV w (str (joinTo [32] (ms.map moveT) ms.length))) := by
  have hlen : ms.length ≤ 120 := by unfold listB at hv; rw [Bool.and_eq_true] at hv; exact of_decide_eq_true hv.2
  have HT := hide (joinTo_le [32] (ms.map moveT) 1 46 (by simp) (moveT_all hv))
  have HV := hide hv
  clear hv
  have he : Own byteE (w.alloc (.cells #[] 5)) w.heap.size (some ⟨w.heap.size, 0, none⟩) 0 [] := Own.new (E := byteE) w [] #[] rfl (Nat.le_refl _) (by simp)
  go_enter Tryz.func45, Tryz.ntmps45
  go_wp2
  go_loopw [3, 4] (fun o i wr => ∃ (k : Nat) (A1 : Option Addr) (c1 : Nat) (zs : List UInt8), k ≤ ms.length ∧ i = .int .i64 k ∧ o = .slice A1 zs.length c1 ∧ Hid (zs = joinTo [32] (ms.map moveT) k) ∧ Own byteE wr w.heap.size A1 c1 zs ∧ Below w.heap.size w wr) (fun _ i _ => ms.length - (intOf i).toNat)
  case atStart => exact ⟨0, _, 0, [], Nat.zero_le _, rfl, rfl, hide rfl, he, (Below.refl _ _).alloc (Nat.le_refl _) _⟩
  case round =>
    obtain ⟨k, A1, c1, zs, hk, rfl, rfl, hzs, own, hB⟩ := hrel
    clear he
    have hz := hB.size
    have hzl := HT.out k
    rw [← hzs.out] at hzl
    by_cases hlt : k < ms.length
    · obtain ⟨b, off, x, y, z, rfl, hbw, hx, hc, hd, he⟩ := mv_at hms hlt
      have iyz := formB_i64 (listB_at HV.out hx)
      have iy : I64 y := iyz.1
      have iz : I64 z := iyz.2.2
      have hx2 : (ms.map moveT)[k]? = some (moveT (x, y, z)) := by rw [List.getElem?_map, hx]; rfl
      have ly := decL_len iy
      have lz := decL_len iz
      have hpl := moveT_len (m := (x, y, z)) iy iz
      have hzk : zs.length ≤ 5640 := by omega
      have hk0 : (0 : Int) ≤ (k : Int) := by omega
      have hkl : (k : Int) < (ms.length : Int) := by omega
      have keepw : ∀ W, Below w.heap.size w W → W.cell? ⟨b, off + k * 3, none⟩ = some (.int .i64 x) ∧ W.cell? ⟨b, off + k * 3 + 1, none⟩ = some (.int .i64 y) ∧ W.cell? ⟨b, off + k * 3 + 2, none⟩ = some (.int .i64 z) := fun W hW => ⟨(hW.cell (p := ⟨b, off + k * 3, none⟩) hbw).trans hc, (hW.cell (p := ⟨b, off + k * 3 + 1, none⟩) hbw).trans hd, (hW.cell (p := ⟨b, off + k * 3 + 2, none⟩) hbw).trans he⟩
      have KW := hide keepw
      clear keepw hc hd he iyz
      by_cases h0 : k = 0
      · have HN : Hid (zs ++ moveT (x, y, z) = joinTo [32] (ms.map moveT) (k + 1)) := hide (by rw [hzs.out, joinTo_next [32] hx2, if_pos h0]; rfl)
        have hg : ¬ (0 : Int) < (k : Int) := by omega
        clear hx hx2 hzs h0
        obtain ⟨hcb, hdb, heb⟩ := KW.out _ hB
        have hbb : b < wr.heap.size := by omega
        have hzb := hz
        by_cases hx1 : x = 1
        · have hX := hide hx1
          have hM : moveT (x, y, z) = [108, 111, 111, 112, 58] ++ decL y := by simp [moveT, hx1]
          have ha1 : ∀ W : World, (binOp .add 9 (.string ⟨#[108, 111, 111, 112, 58]⟩) (str (decL y))).run Tryz.prog W = .ok (str (moveT (x, y, z))) W := fun W => by rw [hM]; exact str_add W _ [108, 111, 111, 112, 58] _ (by simp; omega)
          have t1 : (x == 1) = true := by simp [hx1]
          clear hx1 hM
          go_wp2_with fail
          refine (l01Dec_any y _ iy).mono ?_
          rintro e wx ⟨rfl, CX⟩
          have hA3 := Below.trans hB (CX.mono hzb)
          have own3 := own.below CX
          have hz3 := hA3.size
          have hlx : zs.length + (moveT (x, y, z)).length ≤ 140737488355328 := by omega
          go_wp2_with (at_builtin; refine wpList_append_str rfl (.tmp 23) (.tmp 30) rfl w.heap.size A1 c1 zs rfl own3 (moveT (x, y, z)) rfl hlx hz3 _ rfl ?_; intro A4 c4 w4 own4 hg4)
          go_roundw
          case rel => exact ⟨k + 1, A4, c4, _, by omega, by go_num, by simp, HN, own4, hA3.grown hg4 hz3 (fun k hk => (own3.ge hk).1)⟩
          case measure => simp [intOf]; omega
        · have hX := hide hx1
          have t1 : (x == 1) = false := by simp [hx1]
          obtain ⟨s1, hs1⟩ : ∃ s1, s1 = [112, 97, 105, 114, 58] ++ decL y := ⟨_, rfl⟩
          obtain ⟨s2, hs2⟩ : ∃ s2, s2 = s1 ++ [44] := ⟨_, rfl⟩
          have l1 : s1.length ≤ 25 := by rw [hs1]; simp; omega
          have l2 : s2.length ≤ 26 := by rw [hs2]; simp; omega
          have hM : moveT (x, y, z) = s2 ++ decL z := by simp [moveT, hx1, hs2, hs1]
          have ha1 : ∀ W : World, (binOp .add 9 (.string ⟨#[112, 97, 105, 114, 58]⟩) (str (decL y))).run Tryz.prog W = .ok (str s1) W := fun W => by rw [hs1]; exact str_add W _ [112, 97, 105, 114, 58] _ (by simp; omega)
          have ha2 : ∀ W : World, (binOp .add 9 (str s1) (.string ⟨#[44]⟩)).run Tryz.prog W = .ok (str s2) W := fun W => by rw [hs2]; exact str_add W _ _ [44] (by simp; omega)
          have ha3 : ∀ W : World, (binOp .add 9 (str s2) (str (decL z))).run Tryz.prog W = .ok (str (moveT (x, y, z))) W := fun W => by rw [hM]; exact str_add W _ _ _ (by omega)
          clear hs1 hs2 l1 l2
          clear hx1 hM
          go_wp2_with fail
          have C0 : Below wr.heap.size wr wr.drew := (Below.refl _ _).drew
          go_region_held3 (fun w' => w'.cell? ⟨b, off + k * 3, none⟩ = some (.int .i64 x) ∧ w'.cell? ⟨b, off + k * 3 + 1, none⟩ = some (.int .i64 y) ∧ w'.cell? ⟨b, off + k * 3 + 2, none⟩ = some (.int .i64 z))
            (first | exact ⟨hcb, hdb, heb⟩ | exact KW.out _ (Below.trans hB (CX.mono hzb)) | exact KW.out _ (Below.trans hB (CY.mono hzb)) | exact KW.out _ ((Below.trans hB (CX.mono hzb)).grown hg4 (Nat.le_trans hzb CX.size) (fun k hk => (own.ge hk).1)) | exact KW.out _ ((Below.trans hB (CY.mono hzb)).grown hg4 (Nat.le_trans hzb CY.size) (fun k hk => (own.ge hk).1)) | fail)
            (first
              | (go_at_call_of 73 (Value.int .i64 y); refine (RetV.since (l01Dec_any y _ iy) (W0 := wr) (B0 := wr.heap.size) (by first | exact CY | exact C0) (by first | exact CY.size | exact C0.size)).mono ?_; rintro e wx ⟨rfl, CX⟩)
              | (go_at_call_of 73 (Value.int .i64 z); refine (RetV.since (l01Dec_any z _ iz) (W0 := wr) (B0 := wr.heap.size) (by first | exact CX | exact C0) (by first | exact CX.size | exact C0.size)).mono ?_; rintro e wy ⟨rfl, CY⟩)
              | (refine step_append_str rfl (.tmp 32) (.tmp 47) rfl w.heap.size A1 c1 zs rfl (own.below CX) (moveT (x, y, z)) rfl (by omega) (Nat.le_trans hzb CX.size) _ rfl ?_; intro A4 c4 w4 own4 hg4)
              | (refine step_append_str rfl (.tmp 32) (.tmp 47) rfl w.heap.size A1 c1 zs rfl (own.below CY) (moveT (x, y, z)) rfl (by omega) (Nat.le_trans hzb CY.size) _ rfl ?_; intro A4 c4 w4 own4 hg4)
              | fail)
          all_goals go_wp2_with fail
          all_goals go_roundw
          case rel => first
            | exact ⟨k + 1, A4, c4, _, by omega, by go_num, by simp, HN, own4, (Below.trans hB (CX.mono hzb)).grown hg4 (Nat.le_trans hzb CX.size) (fun k hk => (own.ge hk).1)⟩
            | exact ⟨k + 1, A4, c4, _, by omega, by go_num, by simp, HN, own4, (Below.trans hB (CY.mono hzb)).grown hg4 (Nat.le_trans hzb CY.size) (fun k hk => (own.ge hk).1)⟩
          case measure => simp [intOf]; omega
      · obtain ⟨zs2, hzs2⟩ : ∃ zs2, zs2 = zs ++ [32] := ⟨_, rfl⟩
        have hzl2 : zs2.length ≤ zs.length + 1 := by rw [hzs2]; simp
        have HZ2 := hide hzs2
        have HN : Hid (zs2 ++ moveT (x, y, z) = joinTo [32] (ms.map moveT) (k + 1)) := hide (by rw [hzs2, hzs.out, joinTo_more [32] hx2 h0])
        have hg : (0 : Int) < (k : Int) := by omega
        clear hx hx2 hzs h0 hzs2
        by_cases hx1 : x = 1
        · have hX := hide hx1
          have hM : moveT (x, y, z) = [108, 111, 111, 112, 58] ++ decL y := by simp [moveT, hx1]
          have ha1 : ∀ W : World, (binOp .add 9 (.string ⟨#[108, 111, 111, 112, 58]⟩) (str (decL y))).run Tryz.prog W = .ok (str (moveT (x, y, z))) W := fun W => by rw [hM]; exact str_add W _ [108, 111, 111, 112, 58] _ (by simp; omega)
          have t1 : (x == 1) = true := by simp [hx1]
          clear hx1 hM
          go_wp2_with (at_builtin; refine wpList_append_row byteE rfl (.tmp 14) (.tmp 15) rfl w.heap.size A1 c1 zs rfl (own.alloc _) (some ⟨wr.heap.size, 0, none⟩) 1 [32] rfl (RG.fresh (E := byteE) _ _ rfl 32 #[.int .u8 32] rfl _) (by simp; omega) (by simp [byteE]; omega) (by simp; omega) zs2 HZ2.out ?_; intro A2 c2 wb ownb hgb hbb'; have HBb : Below w.heap.size w wb := (hB.alloc (by omega) _).grown hgb (by simp; omega) (fun k hk => (own.ge hk).1); obtain ⟨hcb, hdb, heb⟩ := KW.out _ HBb; have hzb := HBb.size; have hbb : b < wb.heap.size := by omega)
          clear own
          refine (l01Dec_any y _ iy).mono ?_
          rintro e wx ⟨rfl, CX⟩
          have hA3 := Below.trans HBb (CX.mono hzb)
          have own3 := ownb.below CX
          have hz3 := hA3.size
          have hlx : zs2.length + (moveT (x, y, z)).length ≤ 140737488355328 := by omega
          go_wp2_with (at_builtin; refine wpList_append_str rfl (.tmp 23) (.tmp 30) rfl w.heap.size A2 c2 zs2 rfl own3 (moveT (x, y, z)) rfl hlx hz3 _ rfl ?_; intro A4 c4 w4 own4 hg4)
          go_roundw
          case rel => exact ⟨k + 1, A4, c4, _, by omega, by go_num, by simp, HN, own4, hA3.grown hg4 hz3 (fun k hk => (own3.ge hk).1)⟩
          case measure => simp [intOf]; omega
        · have hX := hide hx1
          have t1 : (x == 1) = false := by simp [hx1]
          obtain ⟨s1, hs1⟩ : ∃ s1, s1 = [112, 97, 105, 114, 58] ++ decL y := ⟨_, rfl⟩
          obtain ⟨s2, hs2⟩ : ∃ s2, s2 = s1 ++ [44] := ⟨_, rfl⟩
          have l1 : s1.length ≤ 25 := by rw [hs1]; simp; omega
          have l2 : s2.length ≤ 26 := by rw [hs2]; simp; omega
          have hM : moveT (x, y, z) = s2 ++ decL z := by simp [moveT, hx1, hs2, hs1]
          have ha1 : ∀ W : World, (binOp .add 9 (.string ⟨#[112, 97, 105, 114, 58]⟩) (str (decL y))).run Tryz.prog W = .ok (str s1) W := fun W => by rw [hs1]; exact str_add W _ [112, 97, 105, 114, 58] _ (by simp; omega)
          have ha2 : ∀ W : World, (binOp .add 9 (str s1) (.string ⟨#[44]⟩)).run Tryz.prog W = .ok (str s2) W := fun W => by rw [hs2]; exact str_add W _ _ [44] (by simp; omega)
          have ha3 : ∀ W : World, (binOp .add 9 (str s2) (str (decL z))).run Tryz.prog W = .ok (str (moveT (x, y, z))) W := fun W => by rw [hM]; exact str_add W _ _ _ (by omega)
          clear hs1 hs2 l1 l2
          clear hx1 hM
          go_wp2_with (at_builtin; refine wpList_append_row byteE rfl (.tmp 14) (.tmp 15) rfl w.heap.size A1 c1 zs rfl (own.alloc _) (some ⟨wr.heap.size, 0, none⟩) 1 [32] rfl (RG.fresh (E := byteE) _ _ rfl 32 #[.int .u8 32] rfl _) (by simp; omega) (by simp [byteE]; omega) (by simp; omega) zs2 HZ2.out ?_; intro A2 c2 wb ownb hgb hbb'; have HBb : Below w.heap.size w wb := (hB.alloc (by omega) _).grown hgb (by simp; omega) (fun k hk => (own.ge hk).1); obtain ⟨hcb, hdb, heb⟩ := KW.out _ HBb; have hzb := HBb.size; have hbb : b < wb.heap.size := by omega)
          clear own
          have C0 : Below wb.heap.size wb wb.drew := (Below.refl _ _).drew
          go_region_held3 (fun w' => w'.cell? ⟨b, off + k * 3, none⟩ = some (.int .i64 x) ∧ w'.cell? ⟨b, off + k * 3 + 1, none⟩ = some (.int .i64 y) ∧ w'.cell? ⟨b, off + k * 3 + 2, none⟩ = some (.int .i64 z))
            (first | exact ⟨hcb, hdb, heb⟩ | exact KW.out _ (Below.trans HBb (CX.mono hzb)) | exact KW.out _ (Below.trans HBb (CY.mono hzb)) | exact KW.out _ ((Below.trans HBb (CX.mono hzb)).grown hg4 (Nat.le_trans hzb CX.size) (fun k hk => (ownb.ge hk).1)) | exact KW.out _ ((Below.trans HBb (CY.mono hzb)).grown hg4 (Nat.le_trans hzb CY.size) (fun k hk => (ownb.ge hk).1)) | fail)
            (first
              | (go_at_call_of 73 (Value.int .i64 y); refine (RetV.since (l01Dec_any y _ iy) (W0 := wb) (B0 := wb.heap.size) (by first | exact CY | exact C0) (by first | exact CY.size | exact C0.size)).mono ?_; rintro e wx ⟨rfl, CX⟩)
              | (go_at_call_of 73 (Value.int .i64 z); refine (RetV.since (l01Dec_any z _ iz) (W0 := wb) (B0 := wb.heap.size) (by first | exact CX | exact C0) (by first | exact CX.size | exact C0.size)).mono ?_; rintro e wy ⟨rfl, CY⟩)
              | (refine step_append_str rfl (.tmp 32) (.tmp 47) rfl w.heap.size A2 c2 zs2 rfl (ownb.below CX) (moveT (x, y, z)) rfl (by omega) (Nat.le_trans hzb CX.size) _ rfl ?_; intro A4 c4 w4 own4 hg4)
              | (refine step_append_str rfl (.tmp 32) (.tmp 47) rfl w.heap.size A2 c2 zs2 rfl (ownb.below CY) (moveT (x, y, z)) rfl (by omega) (Nat.le_trans hzb CY.size) _ rfl ?_; intro A4 c4 w4 own4 hg4)
              | fail)
          all_goals go_wp2_with fail
          all_goals go_roundw
          case rel => first
            | exact ⟨k + 1, A4, c4, _, by omega, by go_num, by simp, HN, own4, (Below.trans HBb (CX.mono hzb)).grown hg4 (Nat.le_trans hzb CX.size) (fun k hk => (ownb.ge hk).1)⟩
            | exact ⟨k + 1, A4, c4, _, by omega, by go_num, by simp, HN, own4, (Below.trans HBb (CY.mono hzb)).grown hg4 (Nat.le_trans hzb CY.size) (fun k hk => (ownb.ge hk).1)⟩
          case measure => simp [intOf]; omega
    · have hzs' := hzs.out
      rw [show k = ms.length by omega] at hzs'
      have HZ := hide hzs'
      have hcv := conv_bytes own.rd c1
      clear hzs hzs'
      go_wp2_with fail
      go_ret
      rw [← HZ.out]
      exact ⟨rfl, hB⟩
end Go.Proofs.YtocellbhpjiioaaGreat
