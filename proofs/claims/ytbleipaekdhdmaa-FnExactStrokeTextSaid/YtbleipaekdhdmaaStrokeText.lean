/-
  Contracts: StrokeText, of the reference and of the program. Conditions: none beyond the lengths.
-/
import Derived.Test.YtbleipaekdhdmaaText
import Derived.Test.YtbleipaekdhdmaaStrokeKind
import Derived.Outline
namespace Go.Proofs.Ytbleipaekdhdmaa
open Go.RowKit
set_option linter.unusedVariables false

theorem take_nextT {α : Type} {xs : List α} {k : Nat} {x : α} (h : xs[k]? = some x) : xs.take k ++ [x] = xs.take (k + 1) := by
  rw [List.take_add_one, h]; rfl
def ptT (p : Int × Int) : List UInt8 := decL p.1 ++ [44] ++ decL p.2
def strokeT (ps : List (Int × Int)) : List UInt8 := if vldS ps = true then joinTo [32] (ps.map ptT) ps.length else []
theorem i64_small {x : Int} (h : 0 ≤ x ∧ x ≤ 2000) : I64 x := ⟨by omega, by omega⟩
theorem ptT_len {p : Int × Int} (h1 : I64 p.1) (h2 : I64 p.2) : (ptT p).length ≤ 41 := by
  have := decL_len h1
  have := decL_len h2
  unfold ptT
  rw [List.length_append, List.length_append, List.length_singleton]
  omega
theorem vldS_i64 {ps : List (Int × Int)} (h : vldS ps = true) {p : Int × Int} (hp : p ∈ ps) : I64 p.1 ∧ I64 p.2 := by
  unfold vldS at h
  rw [Bool.and_eq_true, List.all_eq_true] at h
  have := placeB_in (h.2 p hp)
  exact ⟨i64_small this.1, i64_small this.2⟩
theorem ptT_all {ps : List (Int × Int)} (h : vldS ps = true) : ∀ x ∈ ps.map ptT, x.length ≤ 41 := by
  intro x hx
  rw [List.mem_map] at hx
  obtain ⟨p, hp, rfl⟩ := hx
  exact ptT_len (vldS_i64 h hp).1 (vldS_i64 h hp).2

set_option maxHeartbeats 4000000 in
theorem specl19Text_any (A : Option Addr) (c : Nat) (ps : List (Int × Int)) (w : World) (hps : RP w A ps) (hn : ps.length ≤ 1048576) (hv : vldS ps = true) :
    Calls Try.prog 46 #[.slice A ps.length c] w (RetV w (str (joinTo [32] (ps.map ptT) ps.length))) := by
  obtain ⟨hin, hpos, hlen⟩ := boxS_in hv
  have HT := hide (joinTo_le [32] (ps.map ptT) 1 41 (by simp) (ptT_all hv))
  have HV := hide hv
  clear hin hv
  have he : Own byteE (w.alloc (.cells #[] 5)) w.heap.size (some ⟨w.heap.size, 0, none⟩) 0 [] := Own.new (E := byteE) w [] #[] rfl (Nat.le_refl _) (by simp)
  go_enter Try.func46, Try.ntmps46
  go_wp2
  go_loopw [3, 4] (fun o i wr => ∃ (k : Nat) (A1 : Option Addr) (c1 : Nat) (zs : List UInt8), k ≤ ps.length ∧ i = .int .i64 k ∧ o = .slice A1 zs.length c1 ∧ Hid (zs = joinTo [32] (ps.map ptT) k) ∧ Own byteE wr w.heap.size A1 c1 zs ∧ Below w.heap.size w wr) (fun _ i _ => ps.length - (intOf i).toNat)
  case atStart => exact ⟨0, _, 0, [], Nat.zero_le _, rfl, rfl, hide rfl, he, (Below.refl _ _).alloc (Nat.le_refl _) _⟩
  case round =>
    obtain ⟨k, A1, c1, zs, hk, rfl, rfl, hzs, own, hB⟩ := hrel
    clear he
    have hr := hps.below hB
    have hz := hB.size
    have hzl := HT.out k
    rw [← hzs.out] at hzl
    by_cases hlt : k < ps.length
    · obtain ⟨b, off, x, y, rfl, hb, hx, hc, hd⟩ := hr.at_ hlt
      have ixy := vldS_i64 HV.out (List.mem_of_getElem? hx)
      have ix : I64 x := ixy.1
      have iy : I64 y := ixy.2
      clear ixy
      have hx2 : (ps.map ptT)[k]? = some (ptT (x, y)) := by rw [List.getElem?_map, hx]; rfl
      have lx := decL_len ix
      have ly := decL_len iy
      have ha1 : ∀ W : World, (binOp .add 9 (str (decL x)) (.string ⟨#[44]⟩)).run Try.prog W = .ok (str (decL x ++ [44])) W := fun W => str_add W _ _ [44] (by simp; omega)
      have ha2 : ∀ W : World, (binOp .add 9 (str (decL x ++ [44])) (str (decL y))).run Try.prog W = .ok (str (ptT (x, y))) W := fun W => str_add W _ _ _ (by simp; omega)
      have hpl := ptT_len (p := (x, y)) ix iy
      have hbw : b < w.heap.size := hps.lt hpos rfl
      have hcw : w.cell? ⟨b, off + k * 2, none⟩ = some (.int .i64 x) := (hB.cell (p := ⟨b, off + k * 2, none⟩) hbw).symm.trans hc
      have hdw : w.cell? ⟨b, off + k * 2 + 1, none⟩ = some (.int .i64 y) := (hB.cell (p := ⟨b, off + k * 2 + 1, none⟩) hbw).symm.trans hd
      have keepw : ∀ W, Below w.heap.size w W → W.cell? ⟨b, off + k * 2, none⟩ = some (.int .i64 x) ∧ W.cell? ⟨b, off + k * 2 + 1, none⟩ = some (.int .i64 y) := fun W hW => ⟨(hW.cell (p := ⟨b, off + k * 2, none⟩) hbw).trans hcw, (hW.cell (p := ⟨b, off + k * 2 + 1, none⟩) hbw).trans hdw⟩
      have KW := hide keepw
      clear keepw
      have hzk : zs.length ≤ 2520 := by omega
      have hk0 : (0 : Int) ≤ (k : Int) := by omega
      have hkl : (k : Int) < (ps.length : Int) := by omega
      by_cases h0 : k = 0
      · have HN : Hid (zs ++ ptT (x, y) = joinTo [32] (ps.map ptT) (k + 1)) := hide (by rw [hzs.out, joinTo_next [32] hx2, if_pos h0]; rfl)
        have hg : ¬ (0 : Int) < (k : Int) := by omega
        clear hx hx2 hzs h0
        go_wp2_with fail
        have C0 : Below wr.heap.size wr wr.drew := (Below.refl _ _).drew
        go_region_held3 (fun w' => w'.cell? ⟨b, off + k * 2, none⟩ = some (.int .i64 x) ∧ w'.cell? ⟨b, off + k * 2 + 1, none⟩ = some (.int .i64 y))
          (first | exact ⟨hc, hd⟩ | exact KW.out _ (hB.trans (CX.mono hz)) | exact KW.out _ (hB.trans (CY.mono hz)) | exact KW.out _ ((hB.trans (CX.mono hz)).grown hg2 (Nat.le_trans hz CX.size) (fun k hk => (own.ge hk).1)) | exact KW.out _ ((hB.trans (CY.mono hz)).grown hg2 (Nat.le_trans hz CY.size) (fun k hk => (own.ge hk).1)) | fail)
          (first
            | (go_at_call_of 62 (Value.int .i64 x); refine (RetV.since (l01Dec_any x _ ix) (W0 := wr) (B0 := wr.heap.size) (by first | exact CY | exact C0) (by first | exact CY.size | exact C0.size)).mono ?_; rintro e wx ⟨rfl, CX⟩)
            | (go_at_call_of 62 (Value.int .i64 y); refine (RetV.since (l01Dec_any y _ iy) (W0 := wr) (B0 := wr.heap.size) (by first | exact CX | exact C0) (by first | exact CX.size | exact C0.size)).mono ?_; rintro e wy ⟨rfl, CY⟩)
            | (refine step_append_str rfl (.tmp 17) (.tmp 31) rfl w.heap.size A1 c1 zs rfl (own.below CX) (ptT (x, y)) rfl (by omega) (Nat.le_trans hz CX.size) _ rfl ?_; intro A2 c2 w2 own2 hg2)
            | (refine step_append_str rfl (.tmp 17) (.tmp 31) rfl w.heap.size A1 c1 zs rfl (own.below CY) (ptT (x, y)) rfl (by omega) (Nat.le_trans hz CY.size) _ rfl ?_; intro A2 c2 w2 own2 hg2)
            | fail)
        all_goals go_wp2_with fail
        all_goals go_roundw
        case rel => first
          | exact ⟨k + 1, A2, c2, _, by omega, by go_num, by simp, HN, own2, (hB.trans (CX.mono hz)).grown hg2 (Nat.le_trans hz CX.size) (fun k hk => (own.ge hk).1)⟩
          | exact ⟨k + 1, A2, c2, _, by omega, by go_num, by simp, HN, own2, (hB.trans (CY.mono hz)).grown hg2 (Nat.le_trans hz CY.size) (fun k hk => (own.ge hk).1)⟩
        case measure => simp [intOf]; omega
      · obtain ⟨zs2, hzs2⟩ : ∃ zs2, zs2 = zs ++ [32] := ⟨_, rfl⟩
        have hzl2 : zs2.length ≤ zs.length + 1 := by rw [hzs2]; simp
        have HZ2 := hide hzs2
        have HN : Hid (zs2 ++ ptT (x, y) = joinTo [32] (ps.map ptT) (k + 1)) := hide (by rw [hzs2, hzs.out, joinTo_more [32] hx2 h0])
        have hg : (0 : Int) < (k : Int) := by omega
        clear hx hx2 hzs h0 hzs2
        go_wp2_with (at_builtin; refine wpList_append_row byteE rfl (.tmp 14) (.tmp 15) rfl w.heap.size A1 c1 zs rfl (own.alloc _) (some ⟨wr.heap.size, 0, none⟩) 1 [32] rfl (RG.fresh (E := byteE) _ _ rfl 32 #[.int .u8 32] rfl _) (by simp; omega) (by simp [byteE]; omega) (by simp; omega) zs2 HZ2.out ?_; intro A2 c2 wb ownb hgb hbb')
        have HBb : Below w.heap.size w wb := (hB.alloc (by omega) _).grown hgb (by simp; omega) (fun k hk => (own.ge hk).1)
        have hzb := HBb.size
        have hcb := (HBb.cell (p := ⟨b, off + k * 2, none⟩) hbw).trans hcw
        have hdb := (HBb.cell (p := ⟨b, off + k * 2 + 1, none⟩) hbw).trans hdw
        have hbb : b < wb.heap.size := by omega
        clear own hc hd hcw hdw hbb'
        have C0 : Below wb.heap.size wb wb.drew := (Below.refl _ _).drew
        go_region_held3 (fun w' => w'.cell? ⟨b, off + k * 2, none⟩ = some (.int .i64 x) ∧ w'.cell? ⟨b, off + k * 2 + 1, none⟩ = some (.int .i64 y))
          (first | exact ⟨hcb, hdb⟩ | exact KW.out _ (HBb.trans (CX.mono hzb)) | exact KW.out _ (HBb.trans (CY.mono hzb)) | exact KW.out _ ((HBb.trans (CX.mono hzb)).grown hg3 (Nat.le_trans hzb CX.size) (fun k hk => (ownb.ge hk).1)) | exact KW.out _ ((HBb.trans (CY.mono hzb)).grown hg3 (Nat.le_trans hzb CY.size) (fun k hk => (ownb.ge hk).1)) | fail)
          (first
            | (go_at_call_of 62 (Value.int .i64 x); refine (RetV.since (l01Dec_any x _ ix) (W0 := wb) (B0 := wb.heap.size) (by first | exact CY | exact C0) (by first | exact CY.size | exact C0.size)).mono ?_; rintro e wx ⟨rfl, CX⟩)
            | (go_at_call_of 62 (Value.int .i64 y); refine (RetV.since (l01Dec_any y _ iy) (W0 := wb) (B0 := wb.heap.size) (by first | exact CX | exact C0) (by first | exact CX.size | exact C0.size)).mono ?_; rintro e wy ⟨rfl, CY⟩)
            | (refine step_append_str rfl (.tmp 17) (.tmp 31) rfl w.heap.size A2 c2 zs2 rfl (ownb.below CX) (ptT (x, y)) rfl (by omega) (Nat.le_trans hzb CX.size) _ rfl ?_; intro A3 c3 w3 own3 hg3)
            | (refine step_append_str rfl (.tmp 17) (.tmp 31) rfl w.heap.size A2 c2 zs2 rfl (ownb.below CY) (ptT (x, y)) rfl (by omega) (Nat.le_trans hzb CY.size) _ rfl ?_; intro A3 c3 w3 own3 hg3)
            | fail)
        all_goals go_wp2_with fail
        all_goals go_roundw
        case rel => first
          | exact ⟨k + 1, A3, c3, _, by omega, by go_num, by simp, HN, own3, (HBb.trans (CX.mono hzb)).grown hg3 (Nat.le_trans hzb CX.size) (fun k hk => (ownb.ge hk).1)⟩
          | exact ⟨k + 1, A3, c3, _, by omega, by go_num, by simp, HN, own3, (HBb.trans (CY.mono hzb)).grown hg3 (Nat.le_trans hzb CY.size) (fun k hk => (ownb.ge hk).1)⟩
        case measure => simp [intOf]; omega
    · have hzs' := hzs.out
      rw [show k = ps.length by omega] at hzs'
      have HZ := hide hzs'
      have hcv := conv_bytes own.rd c1
      clear hzs hzs'
      go_wp2_with fail
      go_ret
      rw [← HZ.out]
      exact ⟨rfl, hB⟩

theorem specStrokeText_any (A : Option Addr) (c : Nat) (ps : List (Int × Int)) (w : World) (hps : RP w A ps) (hn : ps.length ≤ 1048576) :
    Calls Try.prog 24 #[.slice A ps.length c] w (RetV w (str (strokeT ps))) := by
  unfold strokeT
  cases hv : vldS ps
  · go_enter Try.func24, Try.ntmps24
    go_wp2_with (go_at_call 34; refine (l19Ok_any _ _ ps _ hps hn).mono ?_; rw [hv]; rintro e w1 ⟨rfl, rfl⟩)
    go_ret
    exact ⟨rfl, Below.refl _ _⟩
  · go_enter Try.func24, Try.ntmps24
    go_wp2_with (go_at_call 34; refine (l19Ok_any _ _ ps _ hps hn).mono ?_; rw [hv]; rintro e w1 ⟨rfl, rfl⟩)
    refine (specl19Text_any _ _ ps _ hps hn hv).mono ?_
    rintro e w1 ⟨rfl, hb⟩
    go_wp2_with fail
    go_ret
    exact ⟨rfl, hb⟩

set_option maxHeartbeats 4000000 in
theorem implStrokeText_any (A : Option Addr) (c : Nat) (ps : List (Int × Int)) (w : World) (hps : RP w A ps) (hn : ps.length ≤ 1048576) :
    Calls Try.prog 25 #[.slice A ps.length c] w (RetV w (str (strokeT ps))) := by
  unfold strokeT
  cases hv : vldS ps
  · go_enter Try.func25, Try.ntmps25
    go_wp2_with fail
    refine (implValidStroke_any _ _ ps _ hps hn).mono ?_
    rintro e w1 ⟨rfl, hb⟩
    rw [hv]
    go_wp2_with fail
    go_ret
    exact ⟨rfl, hb⟩
  · obtain ⟨hin, hpos, hlen⟩ := boxS_in hv
    have HV := hide hv
    clear hin
    go_enter Try.func25, Try.ntmps25
    go_wp2_with fail
    refine (implValidStroke_any _ _ ps _ hps hn).mono ?_
    rintro e w1 ⟨rfl, hb1⟩
    rw [hv]
    have he : Own strE (w1.alloc (.cells #[] 9)) w.heap.size (some ⟨w1.heap.size, 0, none⟩) 0 [] := Own.new (E := strE) w1 [] #[] rfl hb1.size (by simp)
    clear hv
    go_wp2_with fail
    go_loopw [3, 12] (fun o i wr => ∃ (k : Nat) (A1 : Option Addr) (c1 : Nat) (zs : List (List UInt8)), k ≤ ps.length ∧ i = .int .i64 k ∧ o = .slice A1 zs.length c1 ∧ Hid (zs = (ps.map ptT).take k) ∧ Own strE wr w.heap.size A1 c1 zs ∧ Below w.heap.size w wr) (fun _ i _ => ps.length - (intOf i).toNat)
    case atStart => exact ⟨0, _, 0, [], Nat.zero_le _, rfl, rfl, hide rfl, he, hb1.alloc hb1.size _⟩
    case round =>
      obtain ⟨k, A1, c1, zs, hk, rfl, rfl, hzs, own, hB⟩ := hrel
      clear he
      have hr := hps.below hB
      have hz := hB.size
      have hzl : zs.length ≤ 60 := by rw [hzs.out, List.length_take]; omega
      by_cases hlt : k < ps.length
      · obtain ⟨b, off, x, y, rfl, hb, hx, hc, hd⟩ := hr.at_ hlt
        have ixy := vldS_i64 HV.out (List.mem_of_getElem? hx)
        have ix : I64 x := ixy.1
        have iy : I64 y := ixy.2
        clear ixy
        have hx2 : (ps.map ptT)[k]? = some (ptT (x, y)) := by rw [List.getElem?_map, hx]; rfl
        have HN : Hid (zs ++ [ptT (x, y)] = (ps.map ptT).take (k + 1)) := hide (by rw [hzs.out]; exact take_nextT hx2)
        have lx := decL_len ix
        have ly := decL_len iy
        have ha1 : ∀ W : World, (binOp .add 9 (str (decL x)) (.string ⟨#[44]⟩)).run Try.prog W = .ok (str (decL x ++ [44])) W := fun W => str_add W _ _ [44] (by simp; omega)
        have ha2 : ∀ W : World, (binOp .add 9 (str (decL x ++ [44])) (str (decL y))).run Try.prog W = .ok (str (ptT (x, y))) W := fun W => str_add W _ _ _ (by simp; omega)
        clear hx hx2 hzs
        have s1 := str_cells (ptT (x, y))
        unfold Value.cells at s1
        have q1 : Bx (wr.alloc (.cells #[.int .i64 x, .int .i64 y] 30)) wr.heap.size 30 #[.int .i64 x, .int .i64 y] := Bx.new _ _ _
        have own1 := own.alloc (.cells #[.int .i64 x, .int .i64 y] 30)
        have hA1 : blk A1 ≠ some wr.heap.size := fun e => by have := (own.ge e).2; omega
        have hB1 : Below w.heap.size w (wr.alloc (.cells #[.int .i64 x, .int .i64 y] 30)) := hB.alloc hz _
        go_wp2_with fail
        generalize wr.alloc (.cells #[.int .i64 x, .int .i64 y] 30) = wq at *
        have hb1 := q1.lt
        have hzq := hB1.size
        have C0 : Below wq.heap.size wq wq.drew := (Below.refl _ _).drew
        go_region_held3 (fun w' => w'.cell? ⟨wr.heap.size, 0, none⟩ = some (.int .i64 x) ∧ w'.cell? ⟨wr.heap.size, 1, none⟩ = some (.int .i64 y))
          (first | exact q1.two | exact (q1.below CX).two | exact (q1.below CY).two | exact ((q1.below CX).alloc _).two | exact ((q1.below CY).alloc _).two | exact (((q1.below CX).alloc _).grown hg2 (.inr hA1)).two | exact (((q1.below CY).alloc _).grown hg2 (.inr hA1)).two | fail)
          (first
            | (go_at_call_of 47 (Value.int .i64 x); refine (RetV.since (decimal_any x _ ix) (W0 := wq) (B0 := wq.heap.size) (by first | exact CY | exact C0) (by first | exact CY.size | exact C0.size)).mono ?_; rintro e wx ⟨rfl, CX⟩)
            | (go_at_call_of 47 (Value.int .i64 y); refine (RetV.since (decimal_any y _ iy) (W0 := wq) (B0 := wq.heap.size) (by first | exact CX | exact C0) (by first | exact CX.size | exact C0.size)).mono ?_; rintro e wy ⟨rfl, CY⟩)
            | (refine step_append_row strE rfl (.tmp 16) (.tmp 25) rfl w.heap.size A1 c1 zs rfl ((own1.below CX).alloc _) (some ⟨wx.heap.size, 0, none⟩) 1 [ptT (x, y)] rfl (RG.fresh (E := strE) _ _ rfl _ #[str (ptT (x, y))] rfl _) (by simp; omega) (by simp [strE]; omega) (by simp; have := CX.size; omega) _ rfl ?_; intro A2 c2 w2 own2 hg2 hb2)
            | (refine step_append_row strE rfl (.tmp 16) (.tmp 25) rfl w.heap.size A1 c1 zs rfl ((own1.below CY).alloc _) (some ⟨wy.heap.size, 0, none⟩) 1 [ptT (x, y)] rfl (RG.fresh (E := strE) _ _ rfl _ #[str (ptT (x, y))] rfl _) (by simp; omega) (by simp [strE]; omega) (by simp; have := CY.size; omega) _ rfl ?_; intro A2 c2 w2 own2 hg2 hb2)
            | fail)
        all_goals go_wp2_with fail
        all_goals go_roundw
        case rel => first
          | exact ⟨k + 1, A2, c2, _, by omega, by go_num, by simp, HN, own2, ((hB1.trans (CX.mono hzq)).alloc (Nat.le_trans hzq CX.size) _).grown hg2 (by simp; have := CX.size; omega) (fun k hk => (own1.ge hk).1)⟩
          | exact ⟨k + 1, A2, c2, _, by omega, by go_num, by simp, HN, own2, ((hB1.trans (CY.mono hzq)).alloc (Nat.le_trans hzq CY.size) _).grown hg2 (by simp; have := CY.size; omega) (fun k hk => (own1.ge hk).1)⟩
        case measure => simp [intOf]; omega
      · have hzs' := hzs.out
        rw [List.take_of_length_le (by rw [List.length_map]; omega)] at hzs'
        have hl2 : zs.length = ps.length := by rw [hzs', List.length_map]
        have HZ : Hid (joinTo [32] zs zs.length = joinTo [32] (ps.map ptT) ps.length) := hide (by rw [hl2, hzs'])
        have hall : ∀ x ∈ zs, x.length ≤ 41 := by rw [hzs']; exact ptT_all HV.out
        have HA := hide hall
        clear hall hl2 hzs hzs'
        go_wp2_with fail
        refine (joined_any A1 c1 zs [32] 41 _ own.rd (by omega) (by simp) HA.out (by omega)).mono ?_
        rintro e w2 ⟨rfl, hb2⟩
        go_wp2_with fail
        go_ret
        refine ⟨congrArg (fun l => Ending.returned (str l)) HZ.out, hB.trans (hb2.mono hz)⟩
end Go.Proofs.Ytbleipaekdhdmaa
