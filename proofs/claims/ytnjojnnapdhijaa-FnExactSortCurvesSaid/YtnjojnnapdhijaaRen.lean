/-
  Contracts: crossingOf, renamed. Conditions: none beyond the lengths.
-/
import Derived.Test.YtnjojnnapdhijaaPlaces
import Derived.Test.YtnjojnnapdhijaaNames
namespace Go.Proofs.Ytnjojnnapdhijaa
open Go.RowKit
set_option linter.unusedVariables false

theorem OwnC.ge_ {w : World} {base top : Nat} {A : Option Addr} {c : Nat} {code : List (List Int)} (h : OwnC w base top A c code) {g : Nat} (hg : blk A = some g) : base ≤ g ∧ g < top := by
  obtain ⟨hs, h1, h2, h3, h4, h5⟩ := h
  exact ⟨(h1.ge hg).1, h2 g hg⟩
theorem crossingOf_any (x : Int) (w : World) (h1 : -9223372036854775808 < x) (h2 : x ≤ 9223372036854775807) :
    Calls Try.prog 85 #[.int .i64 x] w fun e w' => e = .returned (.int .i64 (crI x)) ∧ w = w' := by
  have wn : IntKind.i64.wrap (-x) = -x := by rw [IntKind.wrap_i64]; omega
  by_cases hlt : x < -x
  · have HV : Hid (crI x = -x - 1) := hide (by unfold crI; omega)
    have wm : IntKind.i64.wrap (-x - 1) = -x - 1 := by rw [IntKind.wrap_i64]; omega
    have hm : max x (-x) = -x := by omega
    go_enter Try.func85, Try.ntmps85
    go_wp2
    go_ret
    rw [HV.out]
    exact ⟨rfl, rfl⟩
  · have HV : Hid (crI x = x - 1) := hide (by unfold crI; omega)
    have wm : IntKind.i64.wrap (x - 1) = x - 1 := by rw [IntKind.wrap_i64]; omega
    have hm : max x (-x) = x := by omega
    go_enter Try.func85, Try.ntmps85
    go_wp2
    go_ret
    rw [HV.out]
    exact ⟨rfl, rfl⟩
theorem Mp.look_nm {w : World} {b : Nat} {l : List (Int × Int)} (h : Mp nmE w b l) {x v : Int} {o : Bool} (hv : (l.lookup x).getD 0 = v) (ho : (l.lookup x).isSome = o) :
    ((Instr.lookup 120 (.map (some b)) (.int .i64 x) true).run Try.prog w = .ok (.tuple #[.int .i64 v, .bool o]) w) ∧
    ((Instr.lookup 120 (.map (some b)) (.int .i64 x) true).run Try.prog w.drew = .ok (.tuple #[.int .i64 v, .bool o]) w.drew) := by
  have key : ∀ {w : World}, Mp nmE w b l → (Instr.lookup 120 (.map (some b)) (.int .i64 x) true).run Try.prog w = .ok (.tuple #[.int .i64 v, .bool o]) w := fun h => by
    have := h.look_ok x
    rw [ho] at this
    unfold atK at this
    rw [show (List.lookup x l).getD nmE.zero = v from hv] at this
    exact this
  exact ⟨key h, key h.drew⟩

set_option maxRecDepth 100000 in
set_option maxHeartbeats 4000000 in
theorem renamed_any (A : Option Addr) (c T mb : Nat) (l : List (Int × Int)) (code : List (List Int)) (w : World) (hc : RC w T A code) (hn : code.length + sumLen code ≤ 1048576) (hm : Mp nmE w mb l)
    (hI : ∀ xs ∈ code, ∀ x ∈ xs, -9223372036854775808 < x ∧ x ≤ 9223372036854775807) (hL : ∀ c v, l.lookup c = some v → 0 ≤ v ∧ v ≤ 1048576) :
    Calls Try.prog 119 #[.slice A code.length c, .map (some mb)] w (RetC w (renC (numF l) code)) := by
  have HI := hide hI
  have HL := hide hL
  have he : OwnC (w.alloc (.cells #[] 34)) w.heap.size (w.alloc (.cells #[] 34)).heap.size (some ⟨w.heap.size, 0, none⟩) 0 [] := (OwnC.empty_ w _ rfl (Nat.le_refl _)).mono (Nat.le_refl _) (by simp)
  clear hI hL
  go_enter Try.func119, Try.ntmps119
  go_wp2_with fail
  go_loopw [5, 16] (fun o i wr => ∃ (k : Nat) (A1 : Option Addr) (c1 : Nat) (zs : List (List Int)), k ≤ code.length ∧ i = .int .i64 k ∧ o = .slice A1 zs.length c1 ∧ Hid (zs = renC (numF l) (code.take k)) ∧ OwnC wr w.heap.size wr.heap.size A1 c1 zs ∧ Below w.heap.size w wr) (fun _ i _ => code.length - (intOf i).toNat)
  case atStart => exact ⟨0, _, 0, [], Nat.zero_le _, rfl, rfl, hide rfl, he, (Below.refl _ _).alloc (Nat.le_refl _) _⟩
  case round =>
    clear he
    obtain ⟨k, A1, c1, zs, hk, rfl, rfl, hzs, own, hB⟩ := hrel
    obtain ⟨wo, rfl⟩ : ∃ wo : World, wo = wr := ⟨_, rfl⟩
    have hz := hB.size
    have hcr := hc.below hB
    have hzl : zs.length ≤ 1048576 := by rw [hzs.out, renC_length, List.length_take]; omega
    by_cases hlt : k < code.length
    · obtain ⟨b, off, B, d, xs, rfl, hb, hx, hcc, hd1, hd2, hR⟩ := hcr.row hlt
      have hxl := sumLen_row hx
      have HX := hide hx
      have hxi := HI.out xs (List.mem_of_getElem? hx)
      have HXI := hide hxi
      clear hx hd1 hd2 hxi
      have hri : OwnI (wo.alloc (.cells #[] 2)) wo.heap.size (some ⟨wo.heap.size, 0, none⟩) 0 [] := OwnI.empty wo (Nat.le_refl _)
      have hBi : Below wo.heap.size wo (wo.alloc (.cells #[] 2)) := (Below.refl _ _).alloc (Nat.le_refl _) _
      go_wp2_with fail
      go_loopw [8, 23] (fun o i wr => ∃ (j : Nat) (A2 : Option Addr) (c2 : Nat) (ys : List Int), j ≤ xs.length ∧ i = .int .i64 j ∧ o = .slice A2 ys.length c2 ∧ Hid (ys = renRow (numF l) (xs.take j)) ∧ OwnI wr wo.heap.size A2 c2 ys ∧ Below wo.heap.size wo wr) (fun _ i _ => xs.length - (intOf i).toNat)
      case atStart => exact ⟨0, _, 0, [], Nat.zero_le _, rfl, rfl, hide rfl, hri, hBi⟩
      case round =>
        clear hri hBi
        obtain ⟨j, A2, c2, ys, hj, rfl, rfl, hys, owni, hBi⟩ := hrel
        have hzi := hBi.size
        have hyl : ys.length ≤ j := by rw [hys.out]; have := renRow_len (numF l) (xs.take j); rw [List.length_take] at this; omega
        have hm2 := hm.below (hB.trans (hBi.mono hz))
        by_cases hjl : j < xs.length
        · obtain ⟨b2, off2, x, rfl, hb2, hx, hcx⟩ := (hR.below hBi).at_ hjl
          obtain ⟨i1, i2⟩ := HXI.out x (List.mem_of_getElem? hx)
          cases hlx : l.lookup (crI x) with
          | none =>
            have HY : Hid (ys = renRow (numF l) (xs.take (j + 1))) := hide (by rw [renRow_next hx, renX_none (show numF l (crI x) = none from hlx), ← hys.out]; simp)
            obtain ⟨k0, k1⟩ := hm2.look_nm (x := crI x) (v := 0) (o := false) (by rw [hlx]; rfl) (by rw [hlx]; rfl)
            clear hx hlx
            go_wp2_with (go_at_call 85; refine (crossingOf_any _ _ i1 i2).mono ?_; rintro e w' ⟨rfl, rfl⟩)
            go_roundw
            case rel => exact ⟨j + 1, A2, c2, ys, by omega, by go_num, rfl, HY, owni, hBi⟩
            case measure => simp [intOf]; omega
          | some v =>
            obtain ⟨v0, v1⟩ := HL.out _ _ hlx
            obtain ⟨k0, k1⟩ := hm2.look_nm (x := crI x) (v := v) (o := true) (by rw [hlx]; rfl) (by rw [hlx]; rfl)
            by_cases hx0 : 0 < x
            · have HY : Hid (ys ++ [v + 1] = renRow (numF l) (xs.take (j + 1))) := hide (by rw [renRow_next hx, renX_up (show numF l (crI x) = some v from hlx) hx0, ← hys.out]; simp)
              have wv : IntKind.i64.wrap (v + 1) = v + 1 := by rw [IntKind.wrap_i64]; omega
              clear hx hlx
              go_wp2_with (first
                | (go_at_call 85; refine (crossingOf_any _ _ i1 i2).mono ?_; rintro e w' ⟨rfl, rfl⟩)
                | (at_builtin; refine wpList_append_ints rfl (.tmp 46) (.tmp 49) rfl wo.heap.size A2 c2 ys rfl (owni.alloc _) (some ⟨wr.heap.size, 0, none⟩) 1 [v + 1] rfl (OwnI.new (base := 0) wr [v + 1] #[.int .i64 (v + 1)] rfl (Nat.zero_le _) (by simp [maxLen])).rd (by simp; omega) (by simp; omega) (ys ++ [v + 1]) rfl ?_; intro A3 c3 w3 own3 hg3 hb3))
              go_roundw
              case rel => exact ⟨j + 1, A3, c3, ys ++ [v + 1], by omega, by go_num, by simp, HY, own3, (hBi.alloc hzi _).grown hg3 (by simp; omega) (fun q hq => (owni.ge hq).1)⟩
              case measure => simp [intOf]; omega
            · have HY : Hid (ys ++ [-v - 1] = renRow (numF l) (xs.take (j + 1))) := hide (by rw [renRow_next hx, renX_down (show numF l (crI x) = some v from hlx) hx0, ← hys.out]; simp)
              have wv : IntKind.i64.wrap (-v) = -v := by rw [IntKind.wrap_i64]; omega
              have wv1 : IntKind.i64.wrap (-v - 1) = -v - 1 := by rw [IntKind.wrap_i64]; omega
              clear hx hlx
              go_wp2_with (first
                | (go_at_call 85; refine (crossingOf_any _ _ i1 i2).mono ?_; rintro e w' ⟨rfl, rfl⟩)
                | (at_builtin; refine wpList_append_ints rfl (.tmp 34) (.tmp 38) rfl wo.heap.size A2 c2 ys rfl (owni.alloc _) (some ⟨wr.heap.size, 0, none⟩) 1 [-v - 1] rfl (OwnI.new (base := 0) wr [-v - 1] #[.int .i64 (-v - 1)] rfl (Nat.zero_le _) (by simp [maxLen])).rd (by simp; omega) (by simp; omega) (ys ++ [-v - 1]) rfl ?_; intro A3 c3 w3 own3 hg3 hb3))
              go_roundw
              case rel => exact ⟨j + 1, A3, c3, ys ++ [-v - 1], by omega, by go_num, by simp, HY, own3, (hBi.alloc hzi _).grown hg3 (by simp; omega) (fun q hq => (owni.ge hq).1)⟩
              case measure => simp [intOf]; omega
        · have hys' := hys.out
          rw [List.take_of_length_le (by omega)] at hys'
          have HZ : Hid (zs ++ [ys] = renC (numF l) (code.take (k + 1))) := hide (by rw [renC_next HX.out, ← hzs.out, hys'])
          have own2 := own.below hBi
          clear hys hys'
          go_wp2_with (at_builtin; refine wpList_append_code rfl (.tmp 52) (.tmp 54) rfl w.heap.size wo.heap.size A1 c1 zs rfl (own2.alloc _) (some ⟨wr.heap.size, 0, none⟩) 1 rfl A2 c2 ys (RG.fresh (E := hdE) wr _ rfl ⟨A2, ys.length, c2⟩ #[.slice A2 ys.length c2] rfl _) (owni.alloc _) hz (by simp; omega) hzl (zs ++ [ys]) rfl ?_; intro A3 c3 w3 own3 hg3 hb3)
          go_roundw
          case rel => exact ⟨k + 1, A3, c3, zs ++ [ys], by omega, by go_num, by simp, HZ, own3, ((hB.trans (hBi.mono hz)).alloc (by omega) _).grown hg3 (by simp; omega) (fun q hq => (own2.ge_ hq).1)⟩
          case measure => simp [intOf]; omega
    · have hzs' := hzs.out
      rw [List.take_of_length_le (by omega)] at hzs'
      have HZ := hide hzs'
      clear hzs hzs'
      go_wp2_with fail
      go_ret
      have := HZ.out
      subst this
      exact ⟨A1, c1, rfl, own, hB⟩
end Go.Proofs.Ytnjojnnapdhijaa
