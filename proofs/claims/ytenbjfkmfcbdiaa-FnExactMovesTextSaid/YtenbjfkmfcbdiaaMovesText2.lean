/-
  Contracts: MovesText, of the reference and of the program. Conditions: none beyond the lengths.
-/
import Derived.Test.YtenbjfkmfcbdiaaMovesText
namespace Go.Proofs.Ytenbjfkmfcbdiaa
open Go.RowKit
set_option linter.unusedVariables false

theorem take_nextMT {α : Type} {xs : List α} {k : Nat} {x : α} (h : xs[k]? = some x) : xs.take k ++ [x] = xs.take (k + 1) := by
  rw [List.take_add_one, h]; rfl
theorem specMovesText_any (A : Option Addr) (c : Nat) (ms : List (Int × Int × Int)) (w : World) (hms : RG mvE w A ms) (hn : ms.length ≤ 1048576) :
    Calls Try.prog 14 #[.slice A ms.length c] w (RetV w (str (movesT ms))) := by
  unfold movesT
  cases hv : listB ms
  · go_enter Try.func14, Try.ntmps14
    go_wp2_with fail
    refine (l16List_any _ _ ms _ hms hn).mono ?_
    rw [hv]
    rintro e w1 ⟨rfl, hb⟩
    go_wp2_with fail
    go_ret
    exact ⟨rfl, hb⟩
  · go_enter Try.func14, Try.ntmps14
    go_wp2_with fail
    refine (l16List_any _ _ ms _ hms hn).mono ?_
    rw [hv]
    rintro e w1 ⟨rfl, hb⟩
    go_wp2_with fail
    refine (l16Text_any _ _ ms _ (hms.below hb) hv).mono ?_
    rintro e w2 ⟨rfl, hb2⟩
    go_wp2_with fail
    go_ret
    exact ⟨rfl, hb.trans (hb2.mono hb.size)⟩

set_option maxRecDepth 100000 in
set_option maxHeartbeats 8000000 in
theorem implMovesText_any (A : Option Addr) (c : Nat) (ms : List (Int × Int × Int)) (w : World) (hms : RG mvE w A ms) (hn : ms.length ≤ 1048576) :
    Calls Try.prog 16 #[.slice A ms.length c] w (RetV w (str (movesT ms))) := by
  by_cases hl : ms.length ≤ 120
  · have he : Own strE (w.alloc (.cells #[] 9)) w.heap.size (some ⟨w.heap.size, 0, none⟩) 0 [] := Own.new (E := strE) w [] #[] rfl (Nat.le_refl _) (by simp)
    have hl' : (ms.length : Int) ≤ 120 := by omega
    go_enter Try.func16, Try.ntmps16
    go_wp2_with fail
    go_loopw [3, 12] (fun o i wr => ∃ (k : Nat) (A1 : Option Addr) (c1 : Nat) (zs : List (List UInt8)), k ≤ ms.length ∧ i = .int .i64 k ∧ o = .slice A1 zs.length c1 ∧ Hid ((ms.take k).all formB = true) ∧ Hid (zs = (ms.map moveT).take k) ∧ Own strE wr w.heap.size A1 c1 zs ∧ Below w.heap.size w wr) (fun _ i _ => ms.length - (intOf i).toNat)
    case atStart => exact ⟨0, _, 0, [], Nat.zero_le _, rfl, rfl, hide (by simp), hide rfl, he, (Below.refl _ _).alloc (Nat.le_refl _) _⟩
    case round =>
      obtain ⟨k, A1, c1, zs, hk, rfl, rfl, hall, hzs, own, hB⟩ := hrel
      clear he
      have hz := hB.size
      have hzl : zs.length ≤ 120 := by rw [hzs.out, List.length_take]; omega
      by_cases hlt : k < ms.length
      · obtain ⟨b, off, x, y, z, rfl, hb, hx, hc, hd, he⟩ := mv_at (hms.below hB) hlt
        have HX := hide hx
        have hkl : (k : Int) < (ms.length : Int) := by omega
        have q1 : Bx (wr.alloc (.cells #[.int .i64 x, .int .i64 y, .int .i64 z] 42)) wr.heap.size 42 #[.int .i64 x, .int .i64 y, .int .i64 z] := Bx.new _ _ _
        have own1 := own.alloc (.cells #[.int .i64 x, .int .i64 y, .int .i64 z] 42)
        have hA1 : blk A1 ≠ some wr.heap.size := fun e => by have := (own.ge e).2; omega
        have hB1 : Below w.heap.size w (wr.alloc (.cells #[.int .i64 x, .int .i64 y, .int .i64 z] 42)) := hB.alloc hz _
        clear hx
        cases hp : formB (x, y, z)
        · have HV := hide (show movesT ms = [] by unfold movesT listB; rw [all_badM HX.out hp]; rfl)
          obtain ⟨p0, p1, p2⟩ := q1.three
          go_wp2_with fail
          refine (hasForm_any x y z _).mono ?_
          rw [hp]
          rintro e w2 ⟨rfl, hb2⟩
          go_wp2_with fail
          go_ret
          rw [HV.out]
          exact ⟨rfl, hB1.trans (hb2.mono hB1.size)⟩
        · have HA := hide (all_nextM (p := formB) HX.out hall.out hp)
          have iyz := formB_i64 hp
          have iy : I64 y := iyz.1
          have iz : I64 z := iyz.2.2
          have hpl := moveT_len (m := (x, y, z)) iy iz
          have ly := decL_len iy
          have lz := decL_len iz
          have HN : Hid (zs ++ [moveT (x, y, z)] = (ms.map moveT).take (k + 1)) := hide (by rw [hzs.out]; exact take_nextMT (by rw [List.getElem?_map, HX.out]; rfl))
          have s1 := str_cells (moveT (x, y, z))
          unfold Value.cells at s1
          obtain ⟨p0, p1, p2⟩ := q1.three
          clear iyz hall hzs
          by_cases hx1 : x = 1
          · have hM : moveT (x, y, z) = [108, 111, 111, 112, 58] ++ decL y := by simp [moveT, hx1]
            have ha1 : ∀ W : World, (binOp .add 9 (.string ⟨#[108, 111, 111, 112, 58]⟩) (str (decL y))).run Try.prog W = .ok (str (moveT (x, y, z))) W := fun W => by rw [hM]; exact str_add W _ [108, 111, 111, 112, 58] _ (by simp; omega)
            have t1 : (x == 1) = true := by simp [hx1]
            have hX := hide hx1
            clear hM hx1
            go_wp2_with fail
            refine (hasForm_any x y z _).mono ?_
            rw [hp]
            rintro e w2 ⟨rfl, hb2⟩
            have hB2 := hB1.trans (hb2.mono hB1.size)
            have own2 := own1.below hb2
            have q2 := q1.below hb2
            obtain ⟨r0, r1, r2⟩ := q2.three
            have hz2 := hB2.size
            clear own own1 q1 p0 p1 p2 hb2 hB1
            go_wp2_with fail
            refine (decimal_any y _ iy).mono ?_
            rintro e w3 ⟨rfl, hb3⟩
            have hB3 := hB2.trans (hb3.mono hz2)
            have own3 := own2.below hb3
            have hz3 := hB3.size
            clear own2 q2 r0 r1 r2 hb3 hB2
            go_wp2_with (at_builtin; refine wpList_append_row strE rfl (.tmp 36) (.tmp 41) rfl w.heap.size A1 c1 zs rfl (own3.alloc _) (some ⟨w3.heap.size, 0, none⟩) 1 [moveT (x, y, z)] rfl (RG.fresh (E := strE) _ _ rfl _ #[str (moveT (x, y, z))] rfl _) (by simp; omega) (by simp [strE]; omega) (by simp; omega) _ rfl ?_; intro A4 c4 w4 own4 hg4 hb4)
            go_roundw
            case rel => exact ⟨k + 1, A4, c4, _, by omega, by go_num, by simp, HA, HN, own4, (hB3.alloc hz3 _).grown hg4 (by simp; omega) (fun k hk => (own3.ge hk).1)⟩
            case measure => simp [intOf]; omega
          · have t1 : (x == 1) = false := by simp [hx1]
            obtain ⟨s1, hs1⟩ : ∃ s1, s1 = [112, 97, 105, 114, 58] ++ decL y := ⟨_, rfl⟩
            obtain ⟨s2, hs2⟩ : ∃ s2, s2 = s1 ++ [44] := ⟨_, rfl⟩
            have l1 : s1.length ≤ 25 := by rw [hs1]; simp; omega
            have l2 : s2.length ≤ 26 := by rw [hs2]; simp; omega
            have hM : moveT (x, y, z) = s2 ++ decL z := by simp [moveT, hx1, hs2, hs1]
            have ha1 : ∀ W : World, (binOp .add 9 (.string ⟨#[112, 97, 105, 114, 58]⟩) (str (decL y))).run Try.prog W = .ok (str s1) W := fun W => by rw [hs1]; exact str_add W _ [112, 97, 105, 114, 58] _ (by simp; omega)
            have ha2 : ∀ W : World, (binOp .add 9 (str s1) (.string ⟨#[44]⟩)).run Try.prog W = .ok (str s2) W := fun W => by rw [hs2]; exact str_add W _ _ [44] (by simp; omega)
            have ha3 : ∀ W : World, (binOp .add 9 (str s2) (str (decL z))).run Try.prog W = .ok (str (moveT (x, y, z))) W := fun W => by rw [hM]; exact str_add W _ _ _ (by omega)
            have hX := hide hx1
            clear hs1 hs2 l1 l2 hM hx1
            go_wp2_with fail
            refine (hasForm_any x y z _).mono ?_
            rw [hp]
            rintro e w2 ⟨rfl, hb2⟩
            have hB2 := hB1.trans (hb2.mono hB1.size)
            have own2 := own1.below hb2
            have q2 := q1.below hb2
            obtain ⟨r0, r1, r2⟩ := q2.three
            have hz2 := hB2.size
            have hb4 := q2.lt
            clear own own1 q1 p0 p1 p2 hb2 hB1
            go_wp2_with fail
            have C0 : Below w2.heap.size w2 w2.drew := (Below.refl _ _).drew
            go_region_held3 (fun w' => w'.cell? ⟨wr.heap.size, 0, none⟩ = some (.int .i64 x) ∧ w'.cell? ⟨wr.heap.size, 1, none⟩ = some (.int .i64 y) ∧ w'.cell? ⟨wr.heap.size, 2, none⟩ = some (.int .i64 z))
              (first | exact q2.three | exact (q2.below CX).three | exact (q2.below CY).three | exact ((q2.below CX).alloc _).three | exact ((q2.below CY).alloc _).three | exact (((q2.below CX).alloc _).grown hg2 (.inr hA1)).three | exact (((q2.below CY).alloc _).grown hg2 (.inr hA1)).three | fail)
              (first
                | (go_at_call_of 58 (Value.int .i64 y); refine (RetV.since (decimal_any y _ iy) (W0 := w2) (B0 := w2.heap.size) (by first | exact CY | exact C0) (by first | exact CY.size | exact C0.size)).mono ?_; rintro e wx ⟨rfl, CX⟩)
                | (go_at_call_of 58 (Value.int .i64 z); refine (RetV.since (decimal_any z _ iz) (W0 := w2) (B0 := w2.heap.size) (by first | exact CX | exact C0) (by first | exact CX.size | exact C0.size)).mono ?_; rintro e wy ⟨rfl, CY⟩)
                | (refine step_append_row strE rfl (.tmp 16) (.tmp 26) rfl w.heap.size A1 c1 zs rfl ((own2.below CX).alloc _) (some ⟨wx.heap.size, 0, none⟩) 1 [moveT (x, y, z)] rfl (RG.fresh (E := strE) _ _ rfl _ #[str (moveT (x, y, z))] rfl _) (by simp; omega) (by simp [strE]; omega) (by simp; have := CX.size; omega) _ rfl ?_; intro A2 c2 w4 own4 hg2 hbb2)
                | (refine step_append_row strE rfl (.tmp 16) (.tmp 26) rfl w.heap.size A1 c1 zs rfl ((own2.below CY).alloc _) (some ⟨wy.heap.size, 0, none⟩) 1 [moveT (x, y, z)] rfl (RG.fresh (E := strE) _ _ rfl _ #[str (moveT (x, y, z))] rfl _) (by simp; omega) (by simp [strE]; omega) (by simp; have := CY.size; omega) _ rfl ?_; intro A2 c2 w4 own4 hg2 hbb2)
                | fail)
            all_goals go_wp2_with fail
            all_goals go_roundw
            case rel => first
              | exact ⟨k + 1, A2, c2, _, by omega, by go_num, by simp, HA, HN, own4, ((Below.trans hB2 (CX.mono hz2)).alloc (Nat.le_trans hz2 CX.size) _).grown hg2 (by simp; have := CX.size; omega) (fun k hk => (own2.ge hk).1)⟩
              | exact ⟨k + 1, A2, c2, _, by omega, by go_num, by simp, HA, HN, own4, ((Below.trans hB2 (CY.mono hz2)).alloc (Nat.le_trans hz2 CY.size) _).grown hg2 (by simp; have := CY.size; omega) (fun k hk => (own2.ge hk).1)⟩
            case measure => simp [intOf]; omega
      · have hzs' := hzs.out
        have hall' := hall.out
        rw [List.take_of_length_le (by rw [List.length_map]; omega)] at hzs'
        rw [List.take_of_length_le (by omega)] at hall'
        have hL : listB ms = true := by unfold listB; rw [hall', Bool.true_and]; exact decide_eq_true hl
        have hl2 : zs.length = ms.length := by rw [hzs', List.length_map]
        have HZ : Hid (joinTo [32] zs zs.length = movesT ms) := hide (by unfold movesT; rw [if_pos hL, hl2, hzs'])
        have hall2 : ∀ x ∈ zs, x.length ≤ 46 := by rw [hzs']; exact moveT_all hL
        have HA := hide hall2
        clear hall2 hl2 hzs hzs' hall hall' hL
        go_wp2_with fail
        refine (joined_any A1 c1 zs [32] 46 _ own.rd (by omega) (by simp) HA.out (by omega)).mono ?_
        rintro e w2 ⟨rfl, hb2⟩
        go_wp2_with fail
        go_ret
        refine ⟨congrArg (fun l => Ending.returned (str l)) HZ.out, hB.trans (hb2.mono hz)⟩
  · have HV := hide (show movesT ms = [] by unfold movesT listB; rw [decide_eq_false hl, Bool.and_false]; rfl)
    have hl' : (120 : Int) < (ms.length : Int) := by omega
    go_enter Try.func16, Try.ntmps16
    go_wp2_with fail
    go_ret
    rw [HV.out]
    exact ⟨rfl, Below.refl _ _⟩
end Go.Proofs.Ytenbjfkmfcbdiaa
