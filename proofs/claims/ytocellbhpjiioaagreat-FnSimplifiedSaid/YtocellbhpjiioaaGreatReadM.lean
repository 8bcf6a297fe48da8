/-
  Contracts: the moves with a text, of the reference and of the program. Conditions: the text's length is far below the machine's.
-/
import Derived.Test.YtocellbhpjiioaaGreatWordI
namespace Go.Proofs.YtocellbhpjiioaaGreat
open Go.RowKit
set_option linter.unusedVariables false

def mvsW (ws : List (List UInt8)) : List Mv := ws.map mvD
/-- the moves of a text, and whether there are any -/
def readR (l : List UInt8) : List Mv × Bool := if l = [] then ([], true) else if listB (mvsW (spl 32 l)) = true then (mvsW (spl 32 l), true) else ([], false)
theorem mvD_none {l : List UInt8} (h : mvW l = none) : formB (mvD l) = false := by unfold mvD; rw [h]; rfl
theorem mvsW_at {ws : List (List UInt8)} {i : Nat} {x : List UInt8} (h : ws[i]? = some x) : (mvsW ws)[i]? = some (mvD x) := by unfold mvsW; rw [List.getElem?_map, h]; rfl
theorem mvsW_next {ws : List (List UInt8)} {i : Nat} {x : List UInt8} (h : ws[i]? = some x) : mvsW (ws.take (i + 1)) = mvsW (ws.take i) ++ [mvD x] := by
  unfold mvsW
  rw [List.take_add_one, h, List.map_append]
  rfl
theorem listB_bad {ws : List (List UInt8)} {i : Nat} {x : List UInt8} (h : ws[i]? = some x) (hf : formB (mvD x) = false) : listB (mvsW ws) = false := by
  unfold listB
  rw [all_badM (mvsW_at h) hf]
  rfl
theorem listB_long {ws : List (List UInt8)} (h : 120 < ws.length) : listB (mvsW ws) = false := by
  unfold listB
  rw [decide_eq_false (by unfold mvsW; rw [List.length_map]; omega)]
  simp
theorem readR_nil : readR [] = ([], true) := rfl
theorem readR_ok {l : List UInt8} (h : l ≠ []) (h2 : listB (mvsW (spl 32 l)) = true) : readR l = (mvsW (spl 32 l), true) := by unfold readR; rw [if_neg h, if_pos h2]
theorem readR_no {l : List UInt8} (h : l ≠ []) (h2 : listB (mvsW (spl 32 l)) = false) : readR l = ([], false) := by unfold readR; rw [if_neg h, if_neg (by rw [h2]; simp)]
theorem readR_len (l : List UInt8) : (readR l).1.length ≤ 120 := by
  by_cases h : l = []
  · rw [h]; simp [readR_nil]
  · cases h2 : listB (mvsW (spl 32 l))
    · rw [readR_no h h2]; simp
    · rw [readR_ok h h2]
      unfold listB at h2
      simp only [Bool.and_eq_true, decide_eq_true_eq] at h2
      exact h2.2
/-- A row of moves of its own, and a Boolean. -/
def RetMB (w : World) (ms : List Mv) (b : Bool) (e : Ending) (w' : World) : Prop := ∃ A c, e = .returned (.tuple #[.slice A ms.length c, .bool b]) ∧ Own mvE w' w.heap.size A c ms ∧ Below w.heap.size w w'

set_option maxRecDepth 20000 in
set_option maxHeartbeats 8000000 in
theorem specReadMoves_any (l : List UInt8) (w : World) (hn : l.length ≤ 1048576) : Calls Tryz.prog 16 #[str l] w (RetMB w (readR l).1 (readR l).2) := by
  have own0 : Own mvE (w.alloc (.cells #[] 46)) w.heap.size (some ⟨w.heap.size, 0, none⟩) 0 [] := Own.new (E := mvE) w [] #[] rfl (Nat.le_refl _) (by simp)
  have hB0 : Below w.heap.size w (w.alloc (.cells #[] 46)) := (Below.refl _ _).alloc (Nat.le_refl _) _
  have hgrd : ∀ (W : World) (x y : Operand), (eqGuard .eql 9 x y (str l) (.string ⟨#[]⟩)).run Tryz.prog W = .ok () W := fun W x y => guard_eql W x y l []
  have heq : ∀ (W : World) (t : TypeId), (binOp .eql t (str l) (.string ⟨#[]⟩)).run Tryz.prog W = .ok (.bool (decide (l = []))) W := fun W t => str_eql (P := Tryz.prog) W t l []
  by_cases h0 : l = []
  · have HV := hide (show readR l = ([], true) by rw [h0]; rfl)
    rw [decide_eq_true h0] at heq
    clear h0
    go_enter Tryz.func16, Tryz.ntmps16
    go_wp2_with fail
    go_ret2
    rw [HV.out]
    exact ⟨_, _, rfl, own0, hB0⟩
  · rw [decide_eq_false h0] at heq
    have HSP := hide (fun W : World => l01Split_any l 32 W hn)
    have HOK := hide (fun h => readR_ok h0 h)
    have HNO := hide (fun h => readR_no h0 h)
    have hwl := spl_len 32 l
    obtain ⟨ws, hws⟩ : ∃ ws, ws = spl 32 l := ⟨_, rfl⟩
    have HWP : Hid (∀ x ∈ ws, x.length ≤ 1048576) := hide fun x hx => by rw [hws] at hx; have := spl_part hx; omega
    rw [← hws] at HSP HOK HNO hwl
    clear hws h0
    go_enter Tryz.func16, Tryz.ntmps16
    go_wp2_with fail
    refine (HSP.out _).mono ?_
    rintro e w1 ⟨A1, c1, rfl, ow1, hb1⟩
    have own1 := own0.below hb1
    have B1 := hB0.trans (hb1.mono hB0.size)
    have OW := hide ow1
    have hz1 := B1.size
    clear own0 hB0 hb1 ow1
    go_wp2_with fail
    go_loopw [4, 6] (fun s4 s6 wr => ∃ (i : Nat) (A2 : Option Addr) (c2 : Nat) (o : List Mv), i ≤ ws.length ∧ s6 = .int .i64 (i : Int) ∧ s4 = .slice A2 o.length c2 ∧ o.length ≤ i ∧ Hid (o = mvsW (ws.take i)) ∧ Own mvE wr w.heap.size A2 c2 o ∧ Own strE wr w.heap.size A1 c1 ws ∧ Below w.heap.size w wr) (fun _ s6 _ => ws.length - (intOf s6).toNat)
    case atStart => exact ⟨0, _, 0, [], Nat.zero_le _, rfl, rfl, Nat.le_refl _, hide rfl, own1, OW.out.mono (by simp), B1⟩
    case round =>
      clear own1 B1 OW hz1
      obtain ⟨i, A2, c2, o, hi, rfl, rfl, hol, ho, own, ow, hB⟩ := hrel
      have hz := hB.size
      by_cases hlt : i < ws.length
      · obtain ⟨gv, offv, x, hA1, hgv, hx, hcx⟩ := ow.rd.row hlt
        have hcv : wr.cell? ⟨gv, offv + i, none⟩ = some (str x) := by
          have := hcx 0 _ rfl
          simpa [strE] using this
        subst hA1
        have HW := hide (fun W : World => l16Word_any x W (HWP.out x (List.mem_of_getElem? hx)))
        have hil : (i : Int) < (ws.length : Int) := by omega
        have HNX := hide (mvsW_next hx)
        have HBD := hide (fun h => HNO.out (listB_bad hx (mvD_none h)))
        have HDN := hide (fun (m : Mv) (h : mvW x = some m) => (show mvD x = m by unfold mvD; rw [h]; rfl))
        obtain ⟨om, hom⟩ : ∃ om, om = mvW x := ⟨_, rfl⟩
        rw [← hom] at HW HBD HDN
        clear hcx hx hom
        go_wp2_with fail
        refine (HW.out _).mono ?_
        rintro e w2 ⟨⟨mk, ma, mb⟩, rfl, hm, hb2⟩
        have own2 := (own.below hb2).alloc (.cells #[.int .i64 mk, .int .i64 ma, .int .i64 mb] 46)
        have ow2 := (ow.below hb2).alloc (.cells #[.int .i64 mk, .int .i64 ma, .int .i64 mb] 46)
        have q2 : Bx (w2.alloc (.cells #[.int .i64 mk, .int .i64 ma, .int .i64 mb] 46)) w2.heap.size 46 #[.int .i64 mk, .int .i64 ma, .int .i64 mb] := Bx.new _ _ _
        have B2 := (hB.trans (hb2.mono hz)).alloc (by have := hb2.size; omega) (.cells #[.int .i64 mk, .int .i64 ma, .int .i64 mb] 46)
        obtain ⟨r0, r1, r2⟩ := q2.three
        have hz2 := B2.size
        have hb2z := hb2.size
        rcases om with _ | m
        · have HV := hide (HBD.out rfl)
          clear hm
          go_wp2_with fail
          go_ret2
          rw [HV.out]
          exact ⟨none, 0, rfl, Own.nil _ _, B2⟩
        · have hme := hm m rfl
          subst hme
          have HN2 : Hid (o ++ [(mk, ma, mb)] = mvsW (ws.take (i + 1))) := hide (by rw [HNX.out, ← ho.out, HDN.out _ rfl])
          clear hm HBD HDN HNX ho
          go_wp2_with (at_builtin; refine wpList_append_row mvE rfl (.tmp 31) (.tmp 33) rfl w.heap.size A2 c2 o rfl (own2.alloc _) (some ⟨w2.heap.size + 1, 0, none⟩) 1 [(mk, ma, mb)] rfl (RG.fresh (E := mvE) _ _ (by simp) (mk, ma, mb) #[.int .i64 mk, .int .i64 ma, .int .i64 mb] rfl _) (by simp; omega) (by simp [mvE]; omega) (by simp; omega) (o ++ [(mk, ma, mb)]) rfl ?_; intro A5 c5 w5 own5 hg5 hb5)
          go_roundw
          case rel => exact ⟨i + 1, A5, c5, _, by omega, by go_num, by simp, by simp; omega, HN2, own5, (ow2.alloc _).grown hg5 (ow2.own_ne own2 (by decide)), (B2.alloc (by simp; omega) _).grown hg5 (by simp; omega) (fun q hq => (own2.ge hq).1)⟩
          case measure => simp [intOf]; omega
      · have hie : i = ws.length := by omega
        have hil : ¬ ((i : Int) < (ws.length : Int)) := by omega
        have ho2 := ho.out
        rw [hie, List.take_of_length_le (Nat.le_refl _)] at ho2
        rw [← ho2] at HOK HNO
        have HL := hide (fun W (h : Below w.heap.size w W) (r : Own mvE W w.heap.size A2 c2 o) => l16List_any A2 c2 o W r.rd (by omega))
        have OWN := hide own
        clear ho ho2 hie
        cases hl : listB o
        · have HV := hide (HNO.out hl)
          rw [hl] at HL
          clear hl own
          go_wp2_with fail
          refine (HL.out _ hB OWN.out).mono ?_
          rintro e w2 ⟨rfl, hb2⟩
          go_wp2_with fail
          go_ret2
          rw [HV.out]
          exact ⟨none, 0, rfl, Own.nil _ _, hB.trans (hb2.mono hz)⟩
        · have HV := hide (HOK.out hl)
          rw [hl] at HL
          clear hl own
          go_wp2_with fail
          refine (HL.out _ hB OWN.out).mono ?_
          rintro e w2 ⟨rfl, hb2⟩
          go_wp2_with fail
          go_ret2
          rw [HV.out]
          exact ⟨A2, c2, rfl, OWN.out.below hb2, hB.trans (hb2.mono hz)⟩
set_option maxRecDepth 20000 in
set_option maxHeartbeats 8000000 in
theorem implReadMoves_any (l : List UInt8) (w : World) (hn : l.length ≤ 1048576) : Calls Tryz.prog 14 #[str l] w (RetMB w (readR l).1 (readR l).2) := by
  have own0 : Own mvE (w.alloc (.cells #[] 46)) w.heap.size (some ⟨w.heap.size, 0, none⟩) 0 [] := Own.new (E := mvE) w [] #[] rfl (Nat.le_refl _) (by simp)
  have hB0 : Below w.heap.size w (w.alloc (.cells #[] 46)) := (Below.refl _ _).alloc (Nat.le_refl _) _
  have hgrd : ∀ (W : World) (x y : Operand), (eqGuard .eql 9 x y (str l) (.string ⟨#[]⟩)).run Tryz.prog W = .ok () W := fun W x y => guard_eql W x y l []
  have heq : ∀ (W : World) (t : TypeId), (binOp .eql t (str l) (.string ⟨#[]⟩)).run Tryz.prog W = .ok (.bool (decide (l = []))) W := fun W t => str_eql (P := Tryz.prog) W t l []
  by_cases h0 : l = []
  · have HV := hide (show readR l = ([], true) by rw [h0]; rfl)
    rw [decide_eq_true h0] at heq
    clear h0
    go_enter Tryz.func14, Tryz.ntmps14
    go_wp2_with fail
    go_ret2
    rw [HV.out]
    exact ⟨_, _, rfl, own0, hB0⟩
  · rw [decide_eq_false h0] at heq
    have HSP := hide (fun W : World => splitAt_any l 32 W hn)
    have HOK := hide (fun h => readR_ok h0 h)
    have HNO := hide (fun h => readR_no h0 h)
    have hwl := spl_len 32 l
    obtain ⟨ws, hws⟩ : ∃ ws, ws = spl 32 l := ⟨_, rfl⟩
    have HWP : Hid (∀ x ∈ ws, x.length ≤ 1048576) := hide fun x hx => by rw [hws] at hx; have := spl_part hx; omega
    rw [← hws] at HSP HOK HNO hwl
    clear hws h0
    go_enter Tryz.func14, Tryz.ntmps14
    go_wp2_with fail
    refine (HSP.out _).mono ?_
    rintro e w1 ⟨A1, c1, rfl, ow1, hb1⟩
    have own1 := own0.below hb1
    have B1 := hB0.trans (hb1.mono hB0.size)
    have OW := hide ow1
    have hz1 := B1.size
    clear own0 hB0 hb1 ow1
    go_wp2_with fail
    go_loopw [4, 15] (fun s4 s6 wr => ∃ (i : Nat) (A2 : Option Addr) (c2 : Nat) (o : List Mv), i ≤ ws.length ∧ s6 = .int .i64 (i : Int) ∧ s4 = .slice A2 o.length c2 ∧ (o.length ≤ i ∧ i ≤ 120) ∧ Hid (o.length = i) ∧ Hid (o = mvsW (ws.take i)) ∧ Hid (o.all formB = true) ∧ Own mvE wr w.heap.size A2 c2 o ∧ Own strE wr w.heap.size A1 c1 ws ∧ Below w.heap.size w wr) (fun _ s6 _ => ws.length - (intOf s6).toNat)
    case atStart => exact ⟨0, _, 0, [], Nat.zero_le _, rfl, rfl, ⟨Nat.le_refl _, by omega⟩, hide rfl, hide rfl, hide rfl, own1, OW.out.mono (by simp), B1⟩
    case round =>
      clear own1 B1 OW hz1
      obtain ⟨i, A2, c2, o, hi, rfl, rfl, hol, hoe, ho, hof, own, ow, hB⟩ := hrel
      have hz := hB.size
      by_cases hlt : i < ws.length
      · obtain ⟨gv, offv, x, hA1, hgv, hx, hcx⟩ := ow.rd.row hlt
        have hcv : wr.cell? ⟨gv, offv + i, none⟩ = some (str x) := by
          have := hcx 0 _ rfl
          simpa [strE] using this
        subst hA1
        have HW := hide (fun W : World => readMove_any x W (HWP.out x (List.mem_of_getElem? hx)))
        have hil : (i : Int) < (ws.length : Int) := by omega
        have HNX := hide (mvsW_next hx)
        have HBD := hide (fun h => HNO.out (listB_bad hx h))
        have HLG := hide (fun h => HNO.out (listB_long (ws := ws) h))
        obtain ⟨m, hm⟩ : ∃ m, m = mvD x := ⟨_, rfl⟩
        rw [← hm] at HW HBD HNX
        have HF := hide (fun W : World => hasForm_any m.1 m.2.1 m.2.2 W)
        obtain ⟨mk, ma, mb⟩ := m
        clear hcx hx hm
        go_wp2_with fail
        refine (HW.out _).mono ?_
        rintro e w2 ⟨rfl, hb2⟩
        have own2 := (own.below hb2).alloc (.cells #[.int .i64 mk, .int .i64 ma, .int .i64 mb] 46)
        have ow2 := (ow.below hb2).alloc (.cells #[.int .i64 mk, .int .i64 ma, .int .i64 mb] 46)
        have q2 : Bx (w2.alloc (.cells #[.int .i64 mk, .int .i64 ma, .int .i64 mb] 46)) w2.heap.size 46 #[.int .i64 mk, .int .i64 ma, .int .i64 mb] := Bx.new _ _ _
        have B2 := (hB.trans (hb2.mono hz)).alloc (by have := hb2.size; omega) (.cells #[.int .i64 mk, .int .i64 ma, .int .i64 mb] 46)
        obtain ⟨r0, r1, r2⟩ := q2.three
        have hz2 := B2.size
        have hb2z := hb2.size
        cases hf : formB (mk, ma, mb)
        · have HV := hide (HBD.out hf)
          have HF2 := HF
          rw [hf] at HF2
          clear hf HF
          go_wp2_with fail
          refine (HF2.out _).mono ?_
          rintro e w3 ⟨rfl, hb3⟩
          go_wp2_with fail
          go_ret2
          rw [HV.out]
          exact ⟨none, 0, rfl, Own.nil _ _, B2.trans (hb3.mono hz2)⟩
        · have HF2 := HF
          rw [hf] at HF2
          have HFO : Hid ((o ++ [(mk, ma, mb)]).all formB = true) := hide (by rw [List.all_append, hof.out]; simp [hf])
          clear hf HF
          go_wp2_with fail
          refine (HF2.out _).mono ?_
          rintro e w3 ⟨rfl, hb3⟩
          have own3 := own2.below hb3
          have ow3 := ow2.below hb3
          have q3 := q2.below hb3
          have B3 := B2.trans (hb3.mono hz2)
          have hz3 := B3.size
          obtain ⟨s0, s1, s2⟩ := q3.three
          clear r0 r1 r2 q2 own2 ow2
          by_cases h120 : i = 120
          · have HV := hide (HLG.out (by omega))
            have e1 : ((o.length : Int) == 120) = true := by rw [hoe.out, h120]; rfl
            clear h120
            go_wp2_with fail
            go_ret2
            rw [HV.out]
            exact ⟨none, 0, rfl, Own.nil _ _, B3⟩
          · have e1 : ((o.length : Int) == 120) = false := by have := hoe.out; rw [beq_eq_false_iff_ne]; omega
            have HN2 : Hid (o ++ [(mk, ma, mb)] = mvsW (ws.take (i + 1))) := hide (by rw [HNX.out, ← ho.out])
            have HN3 : Hid ((o ++ [(mk, ma, mb)]).length = i + 1) := hide (by rw [List.length_append, hoe.out]; rfl)
            have hi120 : i + 1 ≤ 120 := by omega
            clear h120 HBD HNX ho hoe hof
            go_wp2_with (at_builtin; refine wpList_append_row mvE rfl (.tmp 29) (.tmp 31) rfl w.heap.size A2 c2 o rfl (own3.alloc _) (some ⟨w3.heap.size, 0, none⟩) 1 [(mk, ma, mb)] rfl (RG.fresh (E := mvE) _ _ rfl (mk, ma, mb) #[.int .i64 mk, .int .i64 ma, .int .i64 mb] rfl _) (by simp; omega) (by simp [mvE]; omega) (by simp; omega) (o ++ [(mk, ma, mb)]) rfl ?_; intro A5 c5 w5 own5 hg5 hb5)
            go_roundw
            case rel => exact ⟨i + 1, A5, c5, _, by omega, by go_num, by simp, ⟨by simp; omega, hi120⟩, HN3, HN2, HFO, own5, (ow3.alloc _).grown hg5 (ow3.own_ne own3 (by decide)), (B3.alloc hz3 _).grown hg5 (by simp; omega) (fun q hq => (own3.ge hq).1)⟩
            case measure => simp [intOf]; omega
      · have hie : i = ws.length := by omega
        have hil : ¬ ((i : Int) < (ws.length : Int)) := by omega
        have ho2 := ho.out
        rw [hie, List.take_of_length_le (Nat.le_refl _)] at ho2
        have hoe2 := hoe.out
        have HV := hide (HOK.out (by
          rw [← ho2]
          unfold listB
          rw [hof.out, decide_eq_true (by omega)]
          rfl))
        rw [← ho2] at HV
        clear ho ho2 hie hoe2 hoe
        go_wp2_with fail
        go_ret2
        rw [HV.out]
        exact ⟨A2, c2, rfl, own, hB⟩
end Go.Proofs.YtocellbhpjiioaaGreat
