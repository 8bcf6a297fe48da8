/-
  Contracts: whether a slice of integers holds a number (l00Has). Conditions: none beyond the lengths.
  Contracts: the code of a code and a curve (l15Code), the number of crossings (l15Many). Conditions: none beyond the lengths.
  Contracts: l15Size, l15Rename. Conditions: none beyond the lengths.
  Contracts: what is drawn for the law of own crossings. Conditions: arguments of at most 4096 bytes.
  Contract: a code drawn for moves. Conditions: the numbers of bytes and of choices are far below the machine's.
-/
import Derived.Test.YtnjojnnapdhijaaPolyOk
import Derived.Test.YtnjojnnapdhijaaCodeOk
import Derived.Test.YtnjojnnapdhijaaCopyM
import Derived.Test.YtnjojnnapdhijaaBentA
import Derived.Test.YtnjojnnapdhijaaBentC
namespace Go.Proofs.Ytnjojnnapdhijaa
open Go.RowKit
set_option linter.unusedVariables false

def hasB (xs : List Int) (n : Int) : Bool := xs.any (· == n)
theorem any_nextH {xs : List Int} {k : Nat} {x n : Int} (hx : xs[k]? = some x) (h : hasB (xs.take k) n = false) (hp : (x == n) = false) : hasB (xs.take (k + 1)) n = false := by
  unfold hasB at *
  rw [List.take_add_one, hx, List.any_append, h]
  simp [hp]
theorem any_hitH {xs : List Int} {k : Nat} {x n : Int} (hx : xs[k]? = some x) (hp : (x == n) = true) : hasB xs n = true := by
  unfold hasB
  rw [List.any_eq_true]
  exact ⟨x, List.mem_of_getElem? hx, hp⟩
set_option maxHeartbeats 1000000 in
theorem l00Has_any (A : Option Addr) (c : Nat) (xs : List Int) (n : Int) (w : World) (h : RI w A xs) (hn : xs.length ≤ 1048576) :
    Calls Try.prog 92 #[.slice A xs.length c, .int .i64 n] w (fun e w' => e = .returned (.bool (hasB xs n)) ∧ w = w') := by
  go_enter Try.func92, Try.ntmps92
  go_wp2
  go_loop [5] (fun i => ∃ k : Nat, k ≤ xs.length ∧ i = .int .i64 k ∧ Hid (hasB (xs.take k) n = false)) (fun i => xs.length - (intOf i).toNat)
  case atStart => exact ⟨0, Nat.zero_le _, rfl, hide rfl⟩
  case round =>
    obtain ⟨k, hk, rfl, hall⟩ := hrel
    by_cases hlt : k < xs.length
    · obtain ⟨b, off, x, rfl, hb, hx, hc⟩ := h.at_ hlt
      cases hp : (x == n)
      · have HA := hide (any_nextH hx hall.out hp)
        go_wp2_with fail
        go_round
        case rel => exact ⟨k + 1, by omega, by go_num, HA⟩
        case measure => simp [intOf]; omega
      · have HV := hide (any_hitH hx hp)
        go_wp2_with fail
        go_ret
        rw [HV.out]
        exact ⟨rfl, rfl⟩
    · have hall' := hall.out
      rw [List.take_of_length_le (by omega)] at hall'
      have HV := hide hall'
      clear hall hall'
      go_wp2_with fail
      go_ret
      rw [HV.out]
      exact ⟨rfl, rfl⟩
end Go.Proofs.Ytnjojnnapdhijaa

namespace Go.Proofs.Ytnjojnnapdhijaa
open Go.RowKit
set_option linter.unusedVariables false

def curveC (code : List (List Int)) (j : Int) : Int := if validC code = true then (if inB j 0 ((code.length : Int) - 1) = true then 0 else 2) else 1
set_option maxHeartbeats 1000000 in
theorem l15Code_any (A : Option Addr) (c T : Nat) (code : List (List Int)) (j : Int) (w : World) (hc : RC w T A code) (hn : code.length + sumLen code ≤ 1048576) :
    Calls Try.prog 63 #[.slice A code.length c, .int .i64 j] w (RetV w (.int .i64 (curveC code j))) := by
  cases hv : validC code
  · have HV := hide (show curveC code j = 1 by unfold curveC; rw [if_neg (by rw [hv]; simp)])
    go_enter Try.func63, Try.ntmps63
    go_wp2_with fail
    refine (l14Ok_any _ _ T code _ hc hn).mono ?_
    rw [hv]
    rintro e w1 ⟨rfl, hb⟩
    go_wp2_with fail
    go_ret
    rw [HV.out]
    exact ⟨rfl, hb⟩
  · cases hi : inB j 0 ((code.length : Int) - 1)
    · have HV := hide (show curveC code j = 2 by unfold curveC; rw [if_pos hv, if_neg (by rw [hi]; simp)])
      have wl : IntKind.i64.wrap ((code.length : Int) - 1) = (code.length : Int) - 1 := by rw [IntKind.wrap_i64]; omega
      go_enter Try.func63, Try.ntmps63
      go_wp2_with fail
      refine (l14Ok_any _ _ T code _ hc hn).mono ?_
      rw [hv]
      rintro e w1 ⟨rfl, hb⟩
      go_wp2_with (go_at_call 65; refine (l00In_any _ _ _ _).mono ?_; rintro e w' ⟨rfl, rfl⟩)
      go_ret
      rw [HV.out]
      exact ⟨rfl, hb⟩
    · have HV := hide (show curveC code j = 0 by unfold curveC; rw [if_pos hv, if_pos hi])
      have wl : IntKind.i64.wrap ((code.length : Int) - 1) = (code.length : Int) - 1 := by rw [IntKind.wrap_i64]; omega
      go_enter Try.func63, Try.ntmps63
      go_wp2_with fail
      refine (l14Ok_any _ _ T code _ hc hn).mono ?_
      rw [hv]
      rintro e w1 ⟨rfl, hb⟩
      go_wp2_with (go_at_call 65; refine (l00In_any _ _ _ _).mono ?_; rintro e w' ⟨rfl, rfl⟩)
      go_ret
      rw [HV.out]
      exact ⟨rfl, hb⟩
theorem l15Many_any (A : Option Addr) (c T : Nat) (code : List (List Int)) (w : World) (hc : RC w T A code) (hn : code.length + sumLen code ≤ 1048576) :
    Calls Try.prog 88 #[.slice A code.length c] w (fun e w' => e = .returned (.int .i64 ((sumLen code / 2 : Nat) : Int)) ∧ w = w') := by
  have hq : Int.tdiv (sumLen code : Int) 2 = ((sumLen code / 2 : Nat) : Int) := by rw [Int.tdiv_eq_ediv_of_nonneg (by omega)]; omega
  go_enter Try.func88, Try.ntmps88
  go_wp2_with fail
  refine (l14Size_any _ _ T code _ hc hn).mono ?_
  rintro e w1 ⟨rfl, rfl⟩
  go_wp2_with fail
  go_ret
  first
    | exact ⟨rfl, rfl⟩
    | (refine ⟨?_, rfl⟩; rw [hq])
end Go.Proofs.Ytnjojnnapdhijaa

namespace Go.Proofs.Ytnjojnnapdhijaa
open Go.RowKit
set_option linter.unusedVariables false

theorem l00Max_any (a b : Int) (w : World) : Calls Try.prog 125 #[.int .i64 a, .int .i64 b] w fun e w' => e = .returned (.int .i64 (max a b)) ∧ w = w' := by
  by_cases hab : b < a
  · have HV : Hid (max a b = a) := hide (by omega)
    go_enter Try.func125, Try.ntmps125
    go_wp2
    go_ret
    rw [HV.out]
    exact ⟨rfl, rfl⟩
  · have HV : Hid (max a b = b) := hide (by omega)
    go_enter Try.func125, Try.ntmps125
    go_wp2
    go_ret
    rw [HV.out]
    exact ⟨rfl, rfl⟩
theorem l15Size_any (x : Int) (w : World) (h1 : -9223372036854775808 < x) (h2 : x ≤ 9223372036854775807) :
    Calls Try.prog 89 #[.int .i64 x] w fun e w' => e = .returned (.int .i64 (crI x + 1)) ∧ w = w' := by
  have wn : IntKind.i64.wrap (-x) = -x := by rw [IntKind.wrap_i64]; omega
  have HV : Hid (max x (-x) = crI x + 1) := hide (by unfold crI; omega)
  go_enter Try.func89, Try.ntmps89
  go_wp2_with (go_at_call 125; refine (l00Max_any _ _ _).mono ?_; rintro e w' ⟨rfl, rfl⟩)
  go_ret
  rw [HV.out]
  exact ⟨rfl, rfl⟩
theorem run_make_names (n : Nat) (hn : n ≤ 240) (W : World) :
    (Instr.makeSlice 34 (.int .i64 ((n : Int) + 1)) (.int .i64 ((n : Int) + 1))).run Try.prog W = .ok (.slice (some ⟨W.heap.size, 0, none⟩) (n + 1) (n + 1)) (W.alloc (.cells (madeCells intE.z.cells ((n + 1) * intE.size)) 2)) := by
  have := intE.run_make (n + 1) (by simp [intE]; omega) (by omega) W
  rw [show ((n + 1 : Nat) : Int) = (n : Int) + 1 by omega] at this
  exact this
theorem intE_at {w : World} {base : Nat} {A : Option Addr} {c : Nat} {l : List Int} (h : Own intE w base A c l) {k : Nat} {v : Int} (hv : l[k]? = some v) :
    ∃ g, A = some ⟨g, 0, none⟩ ∧ base ≤ g ∧ g < w.heap.size ∧ w.cell? ⟨g, k, none⟩ = some (.int .i64 v) ∧ w.frozen? ⟨g, k, none⟩ = false ∧ ∀ y, Own intE (w.setCell ⟨g, k, none⟩ (.int .i64 y)) base A c (l.set k y) ∧ w.grownBy (w.setCell ⟨g, k, none⟩ (.int .i64 y)) (some g) := by
  have hk := (List.getElem?_eq_some_iff.1 hv).1
  obtain ⟨g, x, rfl, hb, hs, hx, hc, hf⟩ := h.row hk
  rw [hv] at hx
  injection hx with hx
  subst hx
  have hc0 := hc 0 _ rfl
  have e0 : k * intE.size + 0 = k := by simp [intE]
  rw [e0] at hc0
  refine ⟨g, rfl, hb, hs, hc0, hf k, fun y => ?_⟩
  have hp := h.put (k := k) (j := 0) (x := v) (y := y) (u := .int .i64 y) hv (by simp [intE]) rfl
  rw [e0] at hp
  exact hp
theorem OwnC.setGrown {w w' : World} {base top : Nat} {A : Option Addr} {c : Nat} {code : List (List Int)} {row : Option Nat} (h : OwnC w base top A c code) (hg : w.grownBy w' row) (hs : top ≤ w.heap.size) (hr : ∀ b, base ≤ b → b < top → some b ≠ row) : OwnC w' base top A c code :=
  h.keep fun b h1 h2 => hg.block b (by omega) (hr b h1 h2)
theorem OwnI.new_ (w : World) {base : Nat} (n : Nat) (xs : List Int) (cs : Array Value) (hn : n = w.heap.size) (hcs : cs.toList = xs.map (Value.int .i64)) (hb : base ≤ w.heap.size) (hm : xs.length ≤ maxLen) :
    OwnI (w.alloc (.cells cs 2)) base (some ⟨n, 0, none⟩) xs.length xs := by
  subst hn
  exact OwnI.new w xs cs hcs hb hm
theorem ren_name {code : List (List Int)} {i j : Nat} {xs : List Int} {x v : Int} (h : code[i]? = some xs) (hx : xs[j]? = some x) (hv : (numsL (upTo code i (j + 1))).lookup (crI x) = some v) : numF (numsL code.flatten) (crI x) = some v := by
  obtain ⟨t, ht⟩ := upTo_prefix h hx
  unfold numF
  rw [ht, show upTo code i j ++ x :: t = upTo code i (j + 1) ++ t by rw [upTo_next h hx, List.append_assoc]; rfl]
  exact numsL_keep hv

set_option maxRecDepth 100000 in
set_option maxHeartbeats 8000000 in
theorem l15Rename_any (A : Option Addr) (c T : Nat) (code : List (List Int)) (w : World) (hc : RC w T A code) (hn : code.length + sumLen code ≤ 1048576) (hN : sumLen code / 2 ≤ 120)
    (hI : ∀ xs ∈ code, ∀ x ∈ xs, x ≠ 0 ∧ -((sumLen code / 2 : Nat) : Int) ≤ x ∧ x ≤ ((sumLen code / 2 : Nat) : Int)) :
    Calls Try.prog 72 #[.slice A code.length c] w (RetC w (renameC code)) := by
  obtain ⟨N, hNe⟩ : ∃ N, N = sumLen code / 2 := ⟨_, rfl⟩
  rw [← hNe] at hN hI
  have HNe := hide hNe
  have HI := hide hI
  have e1 : (sumLen code : Int) / 2 = (N : Int) := by omega
  have hmk := fun W : World => run_make_names N (by omega) W
  obtain ⟨F, hF⟩ : ∃ F, F = numF (numsL code.flatten) := ⟨_, rfl⟩
  have HF := hide hF
  have hnm : Own intE (w.alloc (.cells (madeCells intE.z.cells ((N + 1) * intE.size)) 2)) w.heap.size (some ⟨w.heap.size, 0, none⟩) (N + 1) (nameL N []) := by
    rw [nameL_nil]
    exact Own.made (E := intE) w _ 0 rfl rfl (Nat.le_refl _) (by omega)
  have hB0 : Below w.heap.size w (w.alloc (.cells (madeCells intE.z.cells ((N + 1) * intE.size)) 2)) := (Below.refl _ _).alloc (Nat.le_refl _) _
  obtain ⟨w0, hw0⟩ : ∃ w0, w0 = w.alloc (.cells (madeCells intE.z.cells ((N + 1) * intE.size)) 2) := ⟨_, rfl⟩
  rw [← hw0] at hnm hB0
  have hs0 : w0.heap.size = w.heap.size + 1 := by rw [hw0]; simp
  have he : OwnC (w0.alloc (.cells #[] 34)) (w.heap.size + 1) (w0.alloc (.cells #[] 34)).heap.size (some ⟨w0.heap.size, 0, none⟩) 0 [] := (OwnC.empty_ w0 _ rfl (by omega)).mono (Nat.le_refl _) (by simp)
  have he2 := hnm.alloc (.cells #[] 34)
  have he3 := hB0.alloc hB0.size (.cells #[] 34)
  rw [hs0, hw0] at he
  rw [hw0] at he2 he3
  clear hI hNe hF hnm hB0 hs0 hw0
  go_enter Try.func72, Try.ntmps72
  go_wp2_with (go_at_call 88; refine (l15Many_any _ _ T code _ hc hn).mono ?_; rintro e w' ⟨rfl, rfl⟩)
  go_loopw [4, 5, 6] (fun nx o i wr => ∃ (k : Nat) (A1 : Option Addr) (c1 : Nat) (zs : List (List Int)) (acc : List (Int × Int)), k ≤ code.length ∧ i = .int .i64 k ∧ o = .slice A1 zs.length c1 ∧ nx = .int .i64 ((acc.length : Int) + 1) ∧ Hid (acc = numsL (upTo code k 0)) ∧ Hid (zs = renC F (code.take k)) ∧ OwnC wr (w.heap.size + 1) wr.heap.size A1 c1 zs ∧ Own intE wr w.heap.size (some ⟨w.heap.size, 0, none⟩) (N + 1) (nameL N acc) ∧ Below w.heap.size w wr) (fun _ _ i _ => code.length - (intOf i).toNat)
  case atStart => exact ⟨0, _, 0, [], [], Nat.zero_le _, rfl, rfl, rfl, hide (by rw [upTo_zero]; rfl), hide rfl, he, he2, he3⟩
  case round =>
    clear he he2 he3 hmk e1
    obtain ⟨k, A1, c1, zs, acc, hk, rfl, rfl, rfl, hacc, hzs, own, onm, hB⟩ := hrel
    obtain ⟨wo, rfl⟩ : ∃ wo : World, wo = wr := ⟨_, rfl⟩
    have hz := hB.size
    have hzo : w.heap.size + 1 ≤ wo.heap.size := (onm.ge (g := w.heap.size) rfl).2
    have hcr := hc.below hB
    have hzl : zs.length ≤ 1048576 := by rw [hzs.out, renC_length, List.length_take]; omega
    by_cases hlt : k < code.length
    · obtain ⟨b, off, B, d, xs, rfl, hb, hx, hcc, hd1, hd2, hR⟩ := hcr.row hlt
      have hxl := sumLen_row hx
      have HX := hide hx
      have hxi := HI.out xs (List.mem_of_getElem? hx)
      have HXI := hide hxi
      clear hx hd1 hd2 hxi hR hcc hb hcr
      obtain ⟨acc0, rfl⟩ : ∃ acc0, acc0 = acc := ⟨_, rfl⟩
      have hri : OwnI (wo.alloc (.cells #[] 2)) wo.heap.size (some ⟨wo.heap.size, 0, none⟩) 0 [] := OwnI.empty wo (Nat.le_refl _)
      have hr2 := own.alloc (.cells #[] 2)
      have hr3 := onm.alloc (.cells #[] 2)
      have hBi := hB.alloc hz (.cells #[] 2)
      go_wp2_with fail
      go_loopw [4, 7, 8] (fun nx o i wr => ∃ (j : Nat) (A2 : Option Addr) (c2 : Nat) (ys : List Int) (acc : List (Int × Int)), j ≤ xs.length ∧ i = .int .i64 j ∧ o = .slice A2 ys.length c2 ∧ nx = .int .i64 ((acc.length : Int) + 1) ∧ Hid (acc = numsL (upTo code k j)) ∧ Hid (ys = renRow F (xs.take j)) ∧ OwnI wr wo.heap.size A2 c2 ys ∧ OwnC wr (w.heap.size + 1) wo.heap.size A1 c1 zs ∧ Own intE wr w.heap.size (some ⟨w.heap.size, 0, none⟩) (N + 1) (nameL N acc) ∧ Below w.heap.size w wr ∧ wo.heap.size ≤ wr.heap.size) (fun _ _ i _ => xs.length - (intOf i).toNat)
      case atStart => exact ⟨0, _, 0, [], acc0, Nat.zero_le _, rfl, rfl, rfl, hacc, hide rfl, hri, hr2, hr3, hBi, by simp⟩
      case round =>
        clear hri hr2 hr3 hBi own onm hacc
        obtain ⟨j, A2, c2, ys, acc, hj, rfl, rfl, rfl, hacc, hys, owni, own, onm, hBi, hzi⟩ := hrel
        have hyl : ys.length ≤ j := by rw [hys.out]; have := renRow_len F (xs.take j); rw [List.length_take] at this; omega
        obtain ⟨b', off', B', d', xs', hA', hb, hx', hcc, _, _, hR⟩ := (hc.below hBi).row hlt
        injection hA' with hA'
        injection hA' with e1 e2
        subst e1 e2
        obtain rfl : xs = xs' := by have := HX.out; rw [hx'] at this; injection this with this; exact this.symm
        clear hx'
        by_cases hjl : j < xs.length
        · obtain ⟨b2, off2, x, rfl, hb2, hx, hcx⟩ := hR.at_ hjl
          obtain ⟨i0, i1, i2⟩ := HXI.out x (List.mem_of_getElem? hx)
          obtain ⟨m, hm⟩ : ∃ m : Nat, crI x + 1 = (m : Int) := ⟨(crI x + 1).toNat, by unfold crI; omega⟩
          have hmN : m < N + 1 := by unfold crI at hm; omega
          have hcm : crI x = (m : Int) - 1 := by omega
          have hal : acc.length ≤ 1048576 := by
            rw [hacc.out]
            have e1 := numsL_len (upTo code k j)
            obtain ⟨t, ht⟩ := upTo_prefix HX.out hx
            have e2 := congrArg List.length ht
            rw [flatten_len, List.length_append] at e2
            omega
          have hmi : (m : Int) < ((N + 1 : Nat) : Int) := by omega
          have hmj : (m : Int) < (N : Int) + 1 := by omega
          have hnx : numsL (upTo code k (j + 1)) = numStep acc (crI x) := by rw [upTo_next HX.out hx, numsL_snoc, ← hacc.out]
          have hwn : -9223372036854775808 < x := by omega
          have hwx : x ≤ 9223372036854775807 := by omega
          cases hlx : acc.lookup (crI x) with
          | none =>
            have hq := nameL_none (N := N) hmN (show acc.lookup ((m : Int) - 1) = none by rw [← hcm]; exact hlx)
            obtain ⟨g, hg, _, hgs, hcell, hfr, hput⟩ := intE_at onm hq
            injection hg with hg
            injection hg with hg
            subst hg
            obtain ⟨nx, hnxe⟩ : ∃ nx : Int, nx = (acc.length : Int) + 1 := ⟨_, rfl⟩
            have hp := hput nx
            have HSET : Hid ((nameL N acc).set m nx = nameL N (acc ++ [(crI x, (acc.length : Int))])) := hide (by rw [hnxe, hcm]; exact nameL_set hmN (show acc.lookup ((m : Int) - 1) = none by rw [← hcm]; exact hlx))
            rw [HSET.out] at hp
            have hq2 : (nameL N (acc ++ [(crI x, (acc.length : Int))]))[m]? = some nx := by
              rw [← HSET.out, List.getElem?_set_self (by rw [nameL_length]; exact hmN)]
            obtain ⟨g, hg, _, _, hcell2, _, _⟩ := intE_at hp.1 hq2
            injection hg with hg
            injection hg with hg
            subst hg
            have hst : numStep acc (crI x) = acc ++ [(crI x, (acc.length : Int))] := by unfold numStep; rw [if_pos hlx]
            have HA : Hid (acc ++ [(crI x, (acc.length : Int))] = numsL (upTo code k (j + 1))) := hide (by rw [hnx, hst])
            have hFv : F (crI x) = some (acc.length : Int) := by rw [HF.out]; exact ren_name HX.out hx (by rw [hnx, hst, lookup_snoc2, hlx, if_pos rfl]; rfl)
            have HNX := hide hnxe
            have owni2 := owni.setLow (p := ⟨w.heap.size, m, none⟩) (by dsimp only; omega) (.int .i64 nx)
            have own2 := own.setFar (p := ⟨w.heap.size, m, none⟩) (.inl (by dsimp only; omega)) (.int .i64 nx)
            have hBi2 := hBi.setCell (p := ⟨w.heap.size, m, none⟩) (Nat.le_refl _) (.int .i64 nx)
            have wnx : IntKind.i64.wrap (nx + 1) = nx + 1 := by rw [IntKind.wrap_i64]; omega
            have hzs2 : wo.heap.size ≤ (wr.setCell ⟨w.heap.size, m, none⟩ (.int .i64 nx)).heap.size := by simpa using hzi
            by_cases hx0 : 0 < x
            · have HY : Hid (ys ++ [nx] = renRow F (xs.take (j + 1))) := hide (by rw [renRow_next hx, renX_up hFv hx0, ← hys.out, hnxe]; simp)
              rw [← hnxe]
              clear hx hlx hnx hst hFv hq hq2 hcm hnxe hput
              go_wp2_with (first
                | (go_at_call 89; refine (l15Size_any _ _ hwn hwx).mono ?_; rintro e w' ⟨rfl, rfl⟩; rw [hm])
                | (at_builtin; refine wpList_append_ints rfl (.tmp 54) (.tmp 59) rfl wo.heap.size A2 c2 ys rfl (owni2.alloc _) (some ⟨wr.heap.size, 0, none⟩) 1 [nx] rfl (OwnI.new_ (base := 0) _ _ [nx] #[.int .i64 nx] (by simp) rfl (Nat.zero_le _) (by simp [maxLen])).rd (by simp; omega) (by simp; omega) (ys ++ [nx]) rfl ?_; intro A3 c3 w3 own3 hg3 hb3))
              have oc3 := (own2.alloc (.cells #[.int .i64 nx] 2)).setGrown hg3 (by simp; omega) (fun b q1 q2 e => by have := (owni2.ge e.symm).1; omega)
              have on3 := (hp.1.alloc (.cells #[.int .i64 nx] 2)).grown hg3 (.inr (fun e => by have := (owni2.ge (g := w.heap.size) e.symm).1; omega))
              have hB3 := (hBi2.alloc hBi2.size (.cells #[.int .i64 nx] 2)).grown hg3 (by simp; omega) (fun q hq => by have := (owni2.ge hq).1; omega)
              have hz3 := hg3.size
              simp only [World.size_alloc, World.size_setCell] at hz3
              go_roundw
              case rel => exact ⟨j + 1, A3, c3, ys ++ [nx], acc ++ [(crI x, (acc.length : Int))], by omega, by go_num, by simp, by rw [HNX.out]; simp, HA, HY, own3, oc3, on3, hB3, by omega⟩
              case measure => simp [intOf]; omega
            · have HY : Hid (ys ++ [-nx] = renRow F (xs.take (j + 1))) := hide (by rw [renRow_next hx, renX_down hFv hx0, ← hys.out, hnxe]; simp; omega)
              have wneg : IntKind.i64.wrap (-nx) = -nx := by rw [IntKind.wrap_i64]; omega
              rw [← hnxe]
              clear hx hlx hnx hst hFv hq hq2 hcm hnxe hput
              go_wp2_with (first
                | (go_at_call 89; refine (l15Size_any _ _ hwn hwx).mono ?_; rintro e w' ⟨rfl, rfl⟩; rw [hm])
                | (at_builtin; refine wpList_append_ints rfl (.tmp 61) (.tmp 67) rfl wo.heap.size A2 c2 ys rfl (owni2.alloc _) (some ⟨wr.heap.size, 0, none⟩) 1 [-nx] rfl (OwnI.new_ (base := 0) _ _ [-nx] #[.int .i64 (-nx)] (by simp) rfl (Nat.zero_le _) (by simp [maxLen])).rd (by simp; omega) (by simp; omega) (ys ++ [-nx]) rfl ?_; intro A3 c3 w3 own3 hg3 hb3))
              have oc3 := (own2.alloc (.cells #[.int .i64 (-nx)] 2)).setGrown hg3 (by simp; omega) (fun b q1 q2 e => by have := (owni2.ge e.symm).1; omega)
              have on3 := (hp.1.alloc (.cells #[.int .i64 (-nx)] 2)).grown hg3 (.inr (fun e => by have := (owni2.ge (g := w.heap.size) e.symm).1; omega))
              have hB3 := (hBi2.alloc hBi2.size (.cells #[.int .i64 (-nx)] 2)).grown hg3 (by simp; omega) (fun q hq => by have := (owni2.ge hq).1; omega)
              have hz3 := hg3.size
              simp only [World.size_alloc, World.size_setCell] at hz3
              go_roundw
              case rel => exact ⟨j + 1, A3, c3, ys ++ [-nx], acc ++ [(crI x, (acc.length : Int))], by omega, by go_num, by simp, by rw [HNX.out]; simp, HA, HY, own3, oc3, on3, hB3, by omega⟩
              case measure => simp [intOf]; omega
          | some v =>
            have hq := nameL_some (N := N) hmN (show acc.lookup ((m : Int) - 1) = some v by rw [← hcm]; exact hlx)
            obtain ⟨g, hg, _, hgs, hcell, hfr, _⟩ := intE_at onm hq
            injection hg with hg
            injection hg with hg
            subst hg
            have hok := numsL_ok (upTo code k j)
            rw [← hacc.out] at hok
            obtain ⟨v0, v1⟩ := hok _ _ hlx
            obtain ⟨nx, hnxe⟩ : ∃ nx : Int, nx = v + 1 := ⟨_, rfl⟩
            rw [← hnxe] at hcell
            have hst : numStep acc (crI x) = acc := by unfold numStep; rw [if_neg (by rw [hlx]; simp)]
            have HA : Hid (acc = numsL (upTo code k (j + 1))) := hide (by rw [hnx, hst])
            have hFv : F (crI x) = some v := by rw [HF.out]; exact ren_name HX.out hx (by rw [hnx, hst]; exact hlx)
            have hn0 : (nx == 0) = false := beq_eq_false_iff_ne.2 (by omega)
            by_cases hx0 : 0 < x
            · have HY : Hid (ys ++ [nx] = renRow F (xs.take (j + 1))) := hide (by rw [renRow_next hx, renX_up hFv hx0, ← hys.out, hnxe]; simp)
              clear hx hlx hnx hst hFv hq hcm hnxe
              go_wp2_with (first
                | (go_at_call 89; refine (l15Size_any _ _ hwn hwx).mono ?_; rintro e w' ⟨rfl, rfl⟩; rw [hm])
                | (at_builtin; refine wpList_append_ints rfl (.tmp 54) (.tmp 59) rfl wo.heap.size A2 c2 ys rfl (owni.alloc _) (some ⟨wr.heap.size, 0, none⟩) 1 [nx] rfl (OwnI.new_ (base := 0) _ _ [nx] #[.int .i64 nx] (by simp) rfl (Nat.zero_le _) (by simp [maxLen])).rd (by simp; omega) (by simp; omega) (ys ++ [nx]) rfl ?_; intro A3 c3 w3 own3 hg3 hb3))
              have oc3 := (own.alloc (.cells #[.int .i64 nx] 2)).setGrown hg3 (by simp; omega) (fun b q1 q2 e => by have := (owni.ge e.symm).1; omega)
              have on3 := (onm.alloc (.cells #[.int .i64 nx] 2)).grown hg3 (.inr (fun e => by have := (owni.ge (g := w.heap.size) e.symm).1; omega))
              have hB3 := (hBi.alloc hBi.size (.cells #[.int .i64 nx] 2)).grown hg3 (by simp; omega) (fun q hq => by have := (owni.ge hq).1; omega)
              have hz3 := hg3.size
              simp only [World.size_alloc] at hz3
              go_roundw
              case rel => exact ⟨j + 1, A3, c3, ys ++ [nx], acc, by omega, by go_num, by simp, rfl, HA, HY, own3, oc3, on3, hB3, by omega⟩
              case measure => simp [intOf]; omega
            · have HY : Hid (ys ++ [-nx] = renRow F (xs.take (j + 1))) := hide (by rw [renRow_next hx, renX_down hFv hx0, ← hys.out, hnxe]; simp; omega)
              have wneg : IntKind.i64.wrap (-nx) = -nx := by rw [IntKind.wrap_i64]; omega
              clear hx hlx hnx hst hFv hq hcm hnxe
              go_wp2_with (first
                | (go_at_call 89; refine (l15Size_any _ _ hwn hwx).mono ?_; rintro e w' ⟨rfl, rfl⟩; rw [hm])
                | (at_builtin; refine wpList_append_ints rfl (.tmp 61) (.tmp 67) rfl wo.heap.size A2 c2 ys rfl (owni.alloc _) (some ⟨wr.heap.size, 0, none⟩) 1 [-nx] rfl (OwnI.new_ (base := 0) _ _ [-nx] #[.int .i64 (-nx)] (by simp) rfl (Nat.zero_le _) (by simp [maxLen])).rd (by simp; omega) (by simp; omega) (ys ++ [-nx]) rfl ?_; intro A3 c3 w3 own3 hg3 hb3))
              have oc3 := (own.alloc (.cells #[.int .i64 (-nx)] 2)).setGrown hg3 (by simp; omega) (fun b q1 q2 e => by have := (owni.ge e.symm).1; omega)
              have on3 := (onm.alloc (.cells #[.int .i64 (-nx)] 2)).grown hg3 (.inr (fun e => by have := (owni.ge (g := w.heap.size) e.symm).1; omega))
              have hB3 := (hBi.alloc hBi.size (.cells #[.int .i64 (-nx)] 2)).grown hg3 (by simp; omega) (fun q hq => by have := (owni.ge hq).1; omega)
              have hz3 := hg3.size
              simp only [World.size_alloc] at hz3
              go_roundw
              case rel => exact ⟨j + 1, A3, c3, ys ++ [-nx], acc, by omega, by go_num, by simp, rfl, HA, HY, own3, oc3, on3, hB3, by omega⟩
              case measure => simp [intOf]; omega
        · have hys' := hys.out
          rw [List.take_of_length_le (by omega)] at hys'
          have HZ : Hid (zs ++ [ys] = renC F (code.take (k + 1))) := hide (by rw [renC_next HX.out, ← hzs.out, hys'])
          have HA : Hid (acc = numsL (upTo code (k + 1) 0)) := hide (by rw [← upTo_row (k := j) HX.out (by omega)]; exact hacc.out)
          have hown2 := own
          clear hys hys' hacc
          go_wp2_with (at_builtin; refine wpList_append_code rfl (.tmp 69) (.tmp 71) rfl (w.heap.size + 1) wo.heap.size A1 c1 zs rfl (own.alloc _) (some ⟨wr.heap.size, 0, none⟩) 1 rfl A2 c2 ys (RG.fresh (E := hdE) wr _ rfl ⟨A2, ys.length, c2⟩ #[.slice A2 ys.length c2] rfl _) (owni.alloc _) hzo (by simp; omega) hzl (zs ++ [ys]) rfl ?_; intro A3 c3 w3 own3 hg3 hb3)
          have on3 := (onm.alloc (.cells #[.slice A2 ys.length c2] 34)).grown hg3 (.inr (fun e => by have := (own.ge_ (g := w.heap.size) e.symm).1; omega))
          have hB3 := (hBi.alloc hBi.size (.cells #[.slice A2 ys.length c2] 34)).grown hg3 (by simp; omega) (fun q hq => by have := (own.ge_ hq).1; omega)
          go_roundw
          case rel => exact ⟨k + 1, A3, c3, zs ++ [ys], acc, by omega, by go_num, by simp, rfl, HA, HZ, own3, on3, hB3⟩
          case measure => simp [intOf]; omega
    · have hzs' := hzs.out
      rw [List.take_of_length_le (by omega), HF.out] at hzs'
      have HZ : Hid (zs = renameC code) := hide hzs'
      clear hzs hzs'
      go_wp2_with fail
      go_ret
      rw [← HZ.out]
      exact ⟨A1, c1, rfl, own.mono (by omega) (Nat.le_refl _), hB⟩
end Go.Proofs.Ytnjojnnapdhijaa

namespace Go.Proofs.Ytnjojnnapdhijaa
open Go.RowKit
set_option linter.unusedVariables false

def RetAt (w : World) (b : Nat) (A : Option Addr) (c : Nat) (xs : List Int) (K : Nat) (e : Ending) (w' : World) : Prop :=
  ∃ (code : List (List Int)) (B : Option Addr) (d : Nat) (k : Int), e = .returned (.tuple #[.slice B code.length d, .int .i64 k]) ∧ CodeB 64 300 code ∧ Dr w' w.heap.size B d code ∧ Sr w' b A c xs K ∧ w.grownBy w' (some b)
def RetDA (w : World) (e : Ending) (w' : World) : Prop :=
  ∃ (code : List (List Int)) (B : Option Addr) (d : Nat) (k : Int), e = .returned (.tuple #[.slice B code.length d, .int .i64 k]) ∧ CodeB 64 300 code ∧ Dr w' w.heap.size B d code ∧ Below w.heap.size w w'
def RetDB (w : World) (e : Ending) (w' : World) : Prop :=
  ∃ (code : List (List Int)) (B : Option Addr) (d : Nat), e = .returned (.slice B code.length d) ∧ CodeB 64 300 code ∧ Dr w' w.heap.size B d code ∧ Below w.heap.size w w'
theorem CodeB.lenA {n m : Nat} {code : List (List Int)} (h : CodeB n m code) (hn : n ≤ 64) (hm : m ≤ 300) : code.length ≤ 64 ∧ code.length + sumLen code ≤ 1048576 := by
  have h1 := h.sum
  have h2 := h.1
  have h3 : code.length * m ≤ 64 * 300 := Nat.mul_le_mul (by omega) hm
  omega
set_option maxHeartbeats 4000000 in
theorem l14At_any (b : Nat) (A : Option Addr) (c : Nat) (xs : List Int) (K : Nat) (w : World) (h : Sr w b A c xs K) (hK : K ≤ 70000) (hx : ∀ x ∈ xs, 0 ≤ x ∧ x ≤ 255) (hn : xs.length ≤ 1048576) :
    Calls Try.prog 84 #[.pointer (some ⟨b, 0, none⟩)] w (RetAt w b A c xs (K + 460)) := by
  have hb0 := h.lt
  have H0 := hide h
  have HX := hide hx
  have HD := hide (l14Bent_any b A c xs K w h (by omega) hx hn)
  clear h hx
  go_enter Try.func84, Try.ntmps84
  go_wp2_with fail
  refine HD.out.mono ?_
  rintro e w1 ⟨code, B, d, rfl, hcb, hdr, s1, g1⟩
  have hz1 := g1.size
  have HCB := hide hcb
  have hcl := hcb.1
  obtain ⟨N, hN⟩ : ∃ N, N = code.length := ⟨_, rfl⟩
  have HN := hide hN
  rw [← hN] at hcl ⊢
  have HDR := hide hdr
  obtain ⟨M, hM⟩ : ∃ M : Int, max 1 (N : Int) = M := ⟨_, rfl⟩
  have hM1 : 0 < M ∧ M ≤ 64 := by omega
  have HMX := hide (l00Max_any 1 (N : Int) w1)
  rw [hM] at HMX
  clear hN hcb hdr HD hM
  go_wp2_with fail
  refine HMX.out.mono ?_
  rintro e w1' ⟨rfl, rfl⟩
  go_wp2_with fail
  refine (pickG_any b A c xs _ M w1 s1 (by omega) HX.out hn hM1.1 (by omega)).mono ?_
  rintro e w2 ⟨p, rfl, hp, s2, g2⟩
  have G2 := gr_trans g1 g2
  clear s1 g1 HMX
  go_wp2_with fail
  refine (one_any b A c xs _ 12 w2 s2 (by omega) HX.out hn (by omega) (by omega)).mono ?_
  rintro e w3 ⟨v, rfl, s3, g3⟩
  have G3 := gr_trans G2 g3
  have hz3 := g3.size
  rcases v with _ | _
  · have HF := hide (And.intro ((HDR.out.src g2 hb0).src g3 hb0) (And.intro s3 G3))
    clear s2 g2 G2 s3 g3 G3
    go_wp2_with fail
    go_ret2
    exact ⟨code, B, d, _, by rw [← HN.out]; rfl, HCB.out, HF.out.1, HF.out.2.1.more (by omega), HF.out.2.2⟩
  · have HS := hide (s3.alloc (.cells #[.int .i64 (-1), .int .i64 (N : Int)] 2))
    have HNEW := hide (OwnI.new (base := 0) w3 [-1, (N : Int)] #[.int .i64 (-1), .int .i64 (N : Int)] rfl (Nat.zero_le _) (by simp [maxLen])).rd
    have hl3 := s3.lt
    have HG := hide (And.intro g2 (And.intro g3 G3))
    clear s2 g2 G2 s3 g3 G3
    go_wp2_with fail
    refine (among_any b A c xs _ (some ⟨w3.heap.size, 0, none⟩) 2 [-1, (N : Int)] _ HS.out (by omega) HX.out hn HNEW.out (fun q hq => by simp [blk] at hq; omega) (by simp) (by simp)).mono ?_
    rintro e w4 ⟨x, rfl, hxm, s4, g4⟩
    have HF := hide (And.intro ((((HDR.out.src HG.out.1 hb0).src HG.out.2.1 hb0).alloc _).src g4 hb0) (And.intro s4 (gr_trans (gr_below HG.out.2.2 ((Below.refl _ _).alloc (Nat.le_refl _) _)) g4)))
    clear hxm s4 g4
    go_wp2_with fail
    go_ret2
    exact ⟨code, B, d, x, by rw [← HN.out]; rfl, HCB.out, HF.out.1, HF.out.2.1.more (by omega), HF.out.2.2⟩
set_option maxHeartbeats 4000000 in
theorem drawDropCurve_any (A : Option Addr) (c : Nat) (xs : List Int) (w : World) (h : RB w A xs) (hx : ∀ x ∈ xs, 0 ≤ x ∧ x ≤ 255) (hn : xs.length ≤ 1048576) :
    Calls Try.prog 34 #[.slice A xs.length c] w (RetDA w) := by
  have hs := Sr.new (c := c) w h
  have hb := (Below.refl w.heap.size w).alloc (Nat.le_refl _) (.cells #[.slice A xs.length c, .int .i64 0, .int .u64 0] 101)
  have HD := hide (l14At_any w.heap.size A c xs 0 _ hs (by omega) hx hn)
  clear h hx hs
  go_enter Try.func34, Try.ntmps34
  go_wp2_with fail
  refine (l00From_any A xs.length c w).mono ?_
  rintro e w1 ⟨rfl, rfl⟩
  go_wp2_with fail
  refine HD.out.mono ?_
  rintro e w2 ⟨code, B, d, k, rfl, hcb, hdr, s2, g2⟩
  have HF := hide (And.intro (hdr.mono (base' := w.heap.size) (by simp)) (below_gr hb g2 (Nat.le_refl _)))
  clear hdr s2 g2 hb
  go_wp2_with fail
  go_ret2
  exact ⟨code, B, d, k, rfl, hcb, HF.out.1, HF.out.2⟩
set_option maxHeartbeats 4000000 in
theorem drawOwnCrossings_any (A : Option Addr) (c : Nat) (xs : List Int) (w : World) (h : RB w A xs) (hx : ∀ x ∈ xs, 0 ≤ x ∧ x ≤ 255) (hn : xs.length ≤ 1048576) :
    Calls Try.prog 37 #[.slice A xs.length c] w (RetDA w) := by
  have hs := Sr.new (c := c) w h
  have hb := (Below.refl w.heap.size w).alloc (Nat.le_refl _) (.cells #[.slice A xs.length c, .int .i64 0, .int .u64 0] 101)
  have HD := hide (l14At_any w.heap.size A c xs 0 _ hs (by omega) hx hn)
  clear h hx hs
  go_enter Try.func37, Try.ntmps37
  go_wp2_with fail
  refine (l00From_any A xs.length c w).mono ?_
  rintro e w1 ⟨rfl, rfl⟩
  go_wp2_with fail
  refine HD.out.mono ?_
  rintro e w2 ⟨code, B, d, k, rfl, hcb, hdr, s2, g2⟩
  have HF := hide (And.intro (hdr.mono (base' := w.heap.size) (by simp)) (below_gr hb g2 (Nat.le_refl _)))
  clear hdr s2 g2 hb
  go_wp2_with fail
  go_ret2
  exact ⟨code, B, d, k, rfl, hcb, HF.out.1, HF.out.2⟩
set_option maxHeartbeats 4000000 in
theorem drawMeetingsOf_any (A : Option Addr) (c : Nat) (xs : List Int) (w : World) (h : RB w A xs) (hx : ∀ x ∈ xs, 0 ≤ x ∧ x ≤ 255) (hn : xs.length ≤ 1048576) :
    Calls Try.prog 40 #[.slice A xs.length c] w (RetDB w) := by
  have hs := Sr.new (c := c) w h
  have hb := (Below.refl w.heap.size w).alloc (Nat.le_refl _) (.cells #[.slice A xs.length c, .int .i64 0, .int .u64 0] 101)
  have HD := hide (l15Bent_any w.heap.size A c xs 0 _ hs (by omega) hx hn)
  clear h hx hs
  go_enter Try.func40, Try.ntmps40
  go_wp2_with fail
  refine (l00From_any A xs.length c w).mono ?_
  rintro e w1 ⟨rfl, rfl⟩
  go_wp2_with fail
  refine HD.out.mono ?_
  rintro e w2 ⟨code, B, d, rfl, hcb, hdr, s2, g2⟩
  have HF := hide (And.intro (hdr.mono (base' := w.heap.size) (by simp)) (below_gr hb g2 (Nat.le_refl _)))
  clear hdr s2 g2 hb
  go_wp2_with fail
  go_ret
  exact ⟨code, B, d, rfl, hcb.mono (Nat.le_refl _) (by omega), HF.out.1, HF.out.2⟩
end Go.Proofs.Ytnjojnnapdhijaa

namespace Go.Proofs.Ytnjojnnapdhijaa
open Go.RowKit
set_option linter.unusedVariables false

/-- a fresh row put into a code, whatever was made since -/
theorem OwnC.putSrc {w w' : World} {base top b g p : Nat} {B : Option Addr} {c d : Nat} {code : List (List Int)} {ps : List Int} (h : OwnC w base top (some ⟨g, 0, none⟩) c code) (ht : top ≤ w.heap.size) (hb : b < base) (hp : p < code.length) (hg : w.grownBy w' (some b)) {t2 : Nat} (hrow : OwnI w' t2 B d ps) (h2 : w.heap.size ≤ t2) :
    OwnC (w'.setCell ⟨g, p, none⟩ (.slice B ps.length d)) base (w'.setCell ⟨g, p, none⟩ (.slice B ps.length d)).heap.size (some ⟨g, 0, none⟩) c (code.set p ps) := by
  have h1 := h.src hg hb ht
  have hbt : base ≤ top := by have := (h1.ge2c (g := g) rfl); omega
  have := (h1.put hp (hrow.mono (Nat.le_trans ht h2)) hbt).1
  rw [World.size_setCell]
  exact this

/-- a row of its own under way: made since wr -/
def NX (wr w : World) (b : Nat) (A : Option Addr) (c : Nat) (xs : List Int) (K t2 : Nat) (B : Option Addr) (d : Nat) (ns : List Int) : Prop :=
  OwnI w t2 B d ns ∧ Sr w b A c xs K ∧ wr.grownBy w (some b) ∧ wr.heap.size ≤ t2 ∧ t2 ≤ w.heap.size
theorem OwnI.shape {w : World} {base c : Nat} {A : Option Addr} {xs : List Int} (h : OwnI w base A c xs) : (A = none ∧ c = 0 ∧ xs.length = 0) ∨ ∃ g, A = some ⟨g, 0, none⟩ := by
  unfold OwnI World.ownsRow at h
  rcases h.2 with ⟨e, hn⟩ | ⟨g, cap, cur, e, _⟩
  · injection e with e1 e2 e3
    exact .inl ⟨e1, e3, e2⟩
  · injection e with e1 e2 e3
    exact .inr ⟨g, e1⟩
section
variable {wr w w' : World} {b : Nat} {A : Option Addr} {c : Nat} {xs : List Int} {K K0 t2 : Nat} {B B' : Option Addr} {d d' : Nat} {ns ns' : List Int}
theorem NX.app (h : NX wr w b A c xs K t2 B d ns) (h0 : Sr wr b A c xs K0) {o : Obj} (own' : OwnI w' t2 B' d' ns') (hg : (w.alloc o).grownBy w' (blk B)) : NX wr w' b A c xs K t2 B' d' ns' := by
  obtain ⟨h1, h2, h3, h4, h5⟩ := h
  have hz := hg.size
  rw [World.size_alloc] at hz
  exact ⟨own', (h2.alloc o).grownOld h0 (fun q hq => (h1.ge hq).1) h4 hg, gr_own (gr_below h3 ((Below.refl _ _).alloc (Nat.le_refl _) o)) (fun q hq => (h1.ge hq).1) h4 hg, h4, by omega⟩
theorem NX.app0 (h : NX wr w b A c xs K t2 B d ns) (h0 : Sr wr b A c xs K0) (own' : OwnI w' t2 B' d' ns') (hg : w.grownBy w' (blk B)) : NX wr w' b A c xs K t2 B' d' ns' := by
  obtain ⟨h1, h2, h3, h4, h5⟩ := h
  have hz := hg.size
  exact ⟨own', h2.grownOld h0 (fun q hq => (h1.ge hq).1) h4 hg, gr_own h3 (fun q hq => (h1.ge hq).1) h4 hg, h4, by omega⟩
theorem NX.src (h : NX wr w b A c xs K t2 B d ns) (h0 : Sr wr b A c xs K0) {K' : Nat} (hs : Sr w' b A c xs K') (hg : w.grownBy w' (some b)) : NX wr w' b A c xs K' t2 B d ns := by
  obtain ⟨h1, h2, h3, h4, h5⟩ := h
  have hz := hg.size
  have hb := h0.lt
  exact ⟨h1.src hg (by omega), hs, gr_trans h3 hg, h4, by omega⟩
theorem NX.put {w0 : World} {base g e p : Nat} {code : List (List Int)} (h : NX wr w b A c xs K t2 B d ns) {Ka : Nat} (ha : Sr w0 b A c xs Ka) (g0 : w0.grownBy wr (some b)) (hbase : w0.heap.size ≤ base) (own : OwnC wr base wr.heap.size (some ⟨g, 0, none⟩) e code) (hp : p < code.length) :
    (∃ B4 d4 n4, w.cell? ⟨g, p, none⟩ = some (.slice B4 n4 d4)) ∧ w.frozen? ⟨g, p, none⟩ = false ∧
    OwnC (w.setCell ⟨g, p, none⟩ (.slice B ns.length d)) base (w.setCell ⟨g, p, none⟩ (.slice B ns.length d)).heap.size (some ⟨g, 0, none⟩) e (code.set p ns) ∧ Sr (w.setCell ⟨g, p, none⟩ (.slice B ns.length d)) b A c xs K ∧
    w0.grownBy (w.setCell ⟨g, p, none⟩ (.slice B ns.length d)) (some b) ∧ base ≤ (w.setCell ⟨g, p, none⟩ (.slice B ns.length d)).heap.size := by
  obtain ⟨h1, h2, h3, h4, h5⟩ := h
  have hb := ha.lt
  obtain ⟨q1, q2⟩ := own.ge2c (g := g) rfl
  have hz := h3.size
  have own' := own.src h3 (by omega) (Nat.le_refl _)
  obtain ⟨g', B4, d4, ys, e1, _, _, _, _, hc, hf, _⟩ := own'.row hp
  injection e1 with e1
  injection e1 with e1
  subst e1
  refine ⟨⟨B4, d4, _, hc⟩, hf, own.putSrc (Nat.le_refl _) (by omega) hp h3 h1 h4, ?_, ?_, by rw [World.size_setCell]; omega⟩
  · exact h2.far (p := ⟨g, p, none⟩) (show b ≠ g by omega) (fun h1 e => by have := ha.row_lt h1 e; simp at this; omega) _
  · exact gr_new (gr_trans g0 h3) (p := ⟨g, p, none⟩) (show w0.heap.size ≤ g by omega) _
end
end Go.Proofs.Ytnjojnnapdhijaa
