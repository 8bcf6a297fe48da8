/-
  Contracts: l15Size, l15Rename. Conditions: none beyond the lengths.
-/
import Derived.Test.YtnjojnnapdhijaaCopyM
import Derived.Test.YtnjojnnapdhijaaCodeInM
namespace Go.Proofs.Ytnjojnnapdhijaa
open Go.RowKit
set_option linter.unusedVariables false

theorem l00Max_any (a b : Int) (w : World) : Calls Try.prog 125 #[.int .i64 a, .int .i64 b] w fun e w' => e = .returned (.int .i64 (max a b)) ∧ w = w' := by
  by_cases hab : b < a
  · have HV : Hid (max a b = a) := hide (by omega)
    go_enter Try.func125, Try.ntmps125
    go_wp2
    go_ret
    rw [HV.out]
    exact ⟨rfl, rfl⟩
  · have HV : Hid (max a b = b) := hide (by omega)
    go_enter Try.func125, Try.ntmps125
    go_wp2
    go_ret
    rw [HV.out]
    exact ⟨rfl, rfl⟩
theorem l15Size_any (x : Int) (w : World) (h1 : -9223372036854775808 < x) (h2 : x ≤ 9223372036854775807) :
    Calls Try.prog 89 #[.int .i64 x] w fun e w' => e = .returned (.int .i64 (crI x + 1)) ∧ w = w' := by
  have wn : IntKind.i64.wrap (-x) = -x := by rw [IntKind.wrap_i64]; omega
  have HV : Hid (max x (-x) = crI x + 1) := hide (by unfold crI; omega)
  go_enter Try.func89, Try.ntmps89
  go_wp2_with (go_at_call 125; refine (l00Max_any _ _ _).mono ?_; rintro e w' ⟨rfl, rfl⟩)
  go_ret
  rw [HV.out]
  exact ⟨rfl, rfl⟩
theorem run_make_names (n : Nat) (hn : n ≤ 240) (W : World) :
    (Instr.makeSlice 34 (.int .i64 ((n : Int) + 1)) (.int .i64 ((n : Int) + 1))).run Try.prog W = .ok (.slice (some ⟨W.heap.size, 0, none⟩) (n + 1) (n + 1)) (W.alloc (.cells (madeCells intE.z.cells ((n + 1) * intE.size)) 2)) := by
  have := intE.run_make (n + 1) (by simp [intE]; omega) (by omega) W
  rw [show ((n + 1 : Nat) : Int) = (n : Int) + 1 by omega] at this
  exact this
theorem intE_at {w : World} {base : Nat} {A : Option Addr} {c : Nat} {l : List Int} (h : Own intE w base A c l) {k : Nat} {v : Int} (hv : l[k]? = some v) :
    ∃ g, A = some ⟨g, 0, none⟩ ∧ base ≤ g ∧ g < w.heap.size ∧ w.cell? ⟨g, k, none⟩ = some (.int .i64 v) ∧ w.frozen? ⟨g, k, none⟩ = false ∧ ∀ y, Own intE (w.setCell ⟨g, k, none⟩ (.int .i64 y)) base A c (l.set k y) ∧ w.grownBy (w.setCell ⟨g, k, none⟩ (.int .i64 y)) (some g) := by
  have hk := (List.getElem?_eq_some_iff.1 hv).1
  obtain ⟨g, x, rfl, hb, hs, hx, hc, hf⟩ := h.row hk
  rw [hv] at hx
  injection hx with hx
  subst hx
  have hc0 := hc 0 _ rfl
  have e0 : k * intE.size + 0 = k := by simp [intE]
  rw [e0] at hc0
  refine ⟨g, rfl, hb, hs, hc0, hf k, fun y => ?_⟩
  have hp := h.put (k := k) (j := 0) (x := v) (y := y) (u := .int .i64 y) hv (by simp [intE]) rfl
  rw [e0] at hp
  exact hp
theorem OwnC.setGrown {w w' : World} {base top : Nat} {A : Option Addr} {c : Nat} {code : List (List Int)} {row : Option Nat} (h : OwnC w base top A c code) (hg : w.grownBy w' row) (hs : top ≤ w.heap.size) (hr : ∀ b, base ≤ b → b < top → some b ≠ row) : OwnC w' base top A c code :=
  h.keep fun b h1 h2 => hg.block b (by omega) (hr b h1 h2)
theorem OwnI.new_ (w : World) {base : Nat} (n : Nat) (xs : List Int) (cs : Array Value) (hn : n = w.heap.size) (hcs : cs.toList = xs.map (Value.int .i64)) (hb : base ≤ w.heap.size) (hm : xs.length ≤ maxLen) :
    OwnI (w.alloc (.cells cs 2)) base (some ⟨n, 0, none⟩) xs.length xs := by
  subst hn
  exact OwnI.new w xs cs hcs hb hm
theorem ren_name {code : List (List Int)} {i j : Nat} {xs : List Int} {x v : Int} (h : code[i]? = some xs) (hx : xs[j]? = some x) (hv : (numsL (upTo code i (j + 1))).lookup (crI x) = some v) : numF (numsL code.flatten) (crI x) = some v := by
  obtain ⟨t, ht⟩ := upTo_prefix h hx
  unfold numF
  rw [ht, show upTo code i j ++ x :: t = upTo code i (j + 1) ++ t by rw [upTo_next h hx, List.append_assoc]; rfl]
  exact numsL_keep hv

set_option maxRecDepth 100000 in
set_option maxHeartbeats 8000000 in
theorem l15Rename_any (A : Option Addr) (c T : Nat) (code : List (List Int)) (w : World) (hc : RC w T A code) (hn : code.length + sumLen code ≤ 1048576) (hN : sumLen code / 2 ≤ 120)
    (hI : ∀ xs ∈ code, ∀ x ∈ xs, x ≠ 0 ∧ -((sumLen code / 2 : Nat) : Int) ≤ x ∧ x ≤ ((sumLen code / 2 : Nat) : Int)) :
    Calls Try.prog 72 #[.slice A code.length c] w (RetC w (renameC code)) := by
  obtain ⟨N, hNe⟩ : ∃ N, N = sumLen code / 2 := ⟨_, rfl⟩
  rw [← hNe] at hN hI
  have HNe := hide hNe
  have HI := hide hI
  have e1 : (sumLen code : Int) / 2 = (N : Int) := by omega
  have hmk := fun W : World => run_make_names N (by omega) W
  obtain ⟨F, hF⟩ : ∃ F, F = numF (numsL code.flatten) := ⟨_, rfl⟩
  have HF := hide hF
  have hnm : Own intE (w.alloc (.cells (madeCells intE.z.cells ((N + 1) * intE.size)) 2)) w.heap.size (some ⟨w.heap.size, 0, none⟩) (N + 1) (nameL N []) := by
    rw [nameL_nil]
    exact Own.made (E := intE) w _ 0 rfl rfl (Nat.le_refl _) (by omega)
  have hB0 : Below w.heap.size w (w.alloc (.cells (madeCells intE.z.cells ((N + 1) * intE.size)) 2)) := (Below.refl _ _).alloc (Nat.le_refl _) _
  obtain ⟨w0, hw0⟩ : ∃ w0, w0 = w.alloc (.cells (madeCells intE.z.cells ((N + 1) * intE.size)) 2) := ⟨_, rfl⟩
  rw [← hw0] at hnm hB0
  have hs0 : w0.heap.size = w.heap.size + 1 := by rw [hw0]; simp
  have he : OwnC (w0.alloc (.cells #[] 34)) (w.heap.size + 1) (w0.alloc (.cells #[] 34)).heap.size (some ⟨w0.heap.size, 0, none⟩) 0 [] := (OwnC.empty_ w0 _ rfl (by omega)).mono (Nat.le_refl _) (by simp)
  have he2 := hnm.alloc (.cells #[] 34)
  have he3 := hB0.alloc hB0.size (.cells #[] 34)
  rw [hs0, hw0] at he
  rw [hw0] at he2 he3
  clear hI hNe hF hnm hB0 hs0 hw0
  go_enter Try.func72, Try.ntmps72
  go_wp2_with (go_at_call 88; refine (l15Many_any _ _ T code _ hc hn).mono ?_; rintro e w' ⟨rfl, rfl⟩)
  go_loopw [4, 5, 6] (fun nx o i wr => ∃ (k : Nat) (A1 : Option Addr) (c1 : Nat) (zs : List (List Int)) (acc : List (Int × Int)), k ≤ code.length ∧ i = .int .i64 k ∧ o = .slice A1 zs.length c1 ∧ nx = .int .i64 ((acc.length : Int) + 1) ∧ Hid (acc = numsL (upTo code k 0)) ∧ Hid (zs = renC F (code.take k)) ∧ OwnC wr (w.heap.size + 1) wr.heap.size A1 c1 zs ∧ Own intE wr w.heap.size (some ⟨w.heap.size, 0, none⟩) (N + 1) (nameL N acc) ∧ Below w.heap.size w wr) (fun _ _ i _ => code.length - (intOf i).toNat)
  case atStart => exact ⟨0, _, 0, [], [], Nat.zero_le _, rfl, rfl, rfl, hide (by rw [upTo_zero]; rfl), hide rfl, he, he2, he3⟩
  case round =>
    clear he he2 he3 hmk e1
    obtain ⟨k, A1, c1, zs, acc, hk, rfl, rfl, rfl, hacc, hzs, own, onm, hB⟩ := hrel
    obtain ⟨wo, rfl⟩ : ∃ wo : World, wo = wr := ⟨_, rfl⟩
    have hz := hB.size
    have hzo : w.heap.size + 1 ≤ wo.heap.size := (onm.ge (g := w.heap.size) rfl).2
    have hcr := hc.below hB
    have hzl : zs.length ≤ 1048576 := by rw [hzs.out, renC_length, List.length_take]; omega
    by_cases hlt : k < code.length
    · obtain ⟨b, off, B, d, xs, rfl, hb, hx, hcc, hd1, hd2, hR⟩ := hcr.row hlt
      have hxl := sumLen_row hx
      have HX := hide hx
      have hxi := HI.out xs (List.mem_of_getElem? hx)
      have HXI := hide hxi
      clear hx hd1 hd2 hxi hR hcc hb hcr
      obtain ⟨acc0, rfl⟩ : ∃ acc0, acc0 = acc := ⟨_, rfl⟩
      have hri : OwnI (wo.alloc (.cells #[] 2)) wo.heap.size (some ⟨wo.heap.size, 0, none⟩) 0 [] := OwnI.empty wo (Nat.le_refl _)
      have hr2 := own.alloc (.cells #[] 2)
      have hr3 := onm.alloc (.cells #[] 2)
      have hBi := hB.alloc hz (.cells #[] 2)
      go_wp2_with fail
      go_loopw [4, 7, 8] (fun nx o i wr => ∃ (j : Nat) (A2 : Option Addr) (c2 : Nat) (ys : List Int) (acc : List (Int × Int)), j ≤ xs.length ∧ i = .int .i64 j ∧ o = .slice A2 ys.length c2 ∧ nx = .int .i64 ((acc.length : Int) + 1) ∧ Hid (acc = numsL (upTo code k j)) ∧ Hid (ys = renRow F (xs.take j)) ∧ OwnI wr wo.heap.size A2 c2 ys ∧ OwnC wr (w.heap.size + 1) wo.heap.size A1 c1 zs ∧ Own intE wr w.heap.size (some ⟨w.heap.size, 0, none⟩) (N + 1) (nameL N acc) ∧ Below w.heap.size w wr ∧ wo.heap.size ≤ wr.heap.size) (fun _ _ i _ => xs.length - (intOf i).toNat)
      case atStart => exact ⟨0, _, 0, [], acc0, Nat.zero_le _, rfl, rfl, rfl, hacc, hide rfl, hri, hr2, hr3, hBi, by simp⟩
      case round =>
        clear hri hr2 hr3 hBi own onm hacc
        obtain ⟨j, A2, c2, ys, acc, hj, rfl, rfl, rfl, hacc, hys, owni, own, onm, hBi, hzi⟩ := hrel
        have hyl : ys.length ≤ j := by rw [hys.out]; have := renRow_len F (xs.take j); rw [List.length_take] at this; omega
        obtain ⟨b', off', B', d', xs', hA', hb, hx', hcc, _, _, hR⟩ := (hc.below hBi).row hlt
        injection hA' with hA'
        injection hA' with e1 e2
        subst e1 e2
        obtain rfl : xs = xs' := by have := HX.out; rw [hx'] at this; injection this with this; exact this.symm
        clear hx'
        by_cases hjl : j < xs.length
        · obtain ⟨b2, off2, x, rfl, hb2, hx, hcx⟩ := hR.at_ hjl
          obtain ⟨i0, i1, i2⟩ := HXI.out x (List.mem_of_getElem? hx)
          obtain ⟨m, hm⟩ : ∃ m : Nat, crI x + 1 = (m : Int) := ⟨(crI x + 1).toNat, by unfold crI; omega⟩
          have hmN : m < N + 1 := by unfold crI at hm; omega
          have hcm : crI x = (m : Int) - 1 := by omega
          have hal : acc.length ≤ 1048576 := by
            rw [hacc.out]
            have e1 := numsL_len (upTo code k j)
            obtain ⟨t, ht⟩ := upTo_prefix HX.out hx
            have e2 := congrArg List.length ht
            rw [flatten_len, List.length_append] at e2
            omega
          have hmi : (m : Int) < ((N + 1 : Nat) : Int) := by omega
          have hmj : (m : Int) < (N : Int) + 1 := by omega
          have hnx : numsL (upTo code k (j + 1)) = numStep acc (crI x) := by rw [upTo_next HX.out hx, numsL_snoc, ← hacc.out]
          have hwn : -9223372036854775808 < x := by omega
          have hwx : x ≤ 9223372036854775807 := by omega
          cases hlx : acc.lookup (crI x) with
          | none =>
            have hq := nameL_none (N := N) hmN (show acc.lookup ((m : Int) - 1) = none by rw [← hcm]; exact hlx)
            obtain ⟨g, hg, _, hgs, hcell, hfr, hput⟩ := intE_at onm hq
            injection hg with hg
            injection hg with hg
            subst hg
            obtain ⟨nx, hnxe⟩ : ∃ nx : Int, nx = (acc.length : Int) + 1 := ⟨_, rfl⟩
            have hp := hput nx
            have HSET : Hid ((nameL N acc).set m nx = nameL N (acc ++ [(crI x, (acc.length : Int))])) := hide (by rw [hnxe, hcm]; exact nameL_set hmN (show acc.lookup ((m : Int) - 1) = none by rw [← hcm]; exact hlx))
            rw [HSET.out] at hp
            have hq2 : (nameL N (acc ++ [(crI x, (acc.length : Int))]))[m]? = some nx := by
              rw [← HSET.out, List.getElem?_set_self (by rw [nameL_length]; exact hmN)]
            obtain ⟨g, hg, _, _, hcell2, _, _⟩ := intE_at hp.1 hq2
            injection hg with hg
            injection hg with hg
            subst hg
            have hst : numStep acc (crI x) = acc ++ [(crI x, (acc.length : Int))] := by unfold numStep; rw [if_pos hlx]
            have HA : Hid (acc ++ [(crI x, (acc.length : Int))] = numsL (upTo code k (j + 1))) := hide (by rw [hnx, hst])
            have hFv : F (crI x) = some (acc.length : Int) := by rw [HF.out]; exact ren_name HX.out hx (by rw [hnx, hst, lookup_snoc2, hlx, if_pos rfl]; rfl)
            have HNX := hide hnxe
            have owni2 := owni.setLow (p := ⟨w.heap.size, m, none⟩) (by dsimp only; omega) (.int .i64 nx)
            have own2 := own.setFar (p := ⟨w.heap.size, m, none⟩) (.inl (by dsimp only; omega)) (.int .i64 nx)
            have hBi2 := hBi.setCell (p := ⟨w.heap.size, m, none⟩) (Nat.le_refl _) (.int .i64 nx)
            have wnx : IntKind.i64.wrap (nx + 1) = nx + 1 := by rw [IntKind.wrap_i64]; omega
            have hzs2 : wo.heap.size ≤ (wr.setCell ⟨w.heap.size, m, none⟩ (.int .i64 nx)).heap.size := by simpa using hzi
            by_cases hx0 : 0 < x
            · have HY : Hid (ys ++ [nx] = renRow F (xs.take (j + 1))) := hide (by rw [renRow_next hx, renX_up hFv hx0, ← hys.out, hnxe]; simp)
              rw [← hnxe]
              clear hx hlx hnx hst hFv hq hq2 hcm hnxe hput
              go_wp2_with (first
                | (go_at_call 89; refine (l15Size_any _ _ hwn hwx).mono ?_; rintro e w' ⟨rfl, rfl⟩; rw [hm])
                | (at_builtin; refine wpList_append_ints rfl (.tmp 54) (.tmp 59) rfl wo.heap.size A2 c2 ys rfl (owni2.alloc _) (some ⟨wr.heap.size, 0, none⟩) 1 [nx] rfl (OwnI.new_ (base := 0) _ _ [nx] #[.int .i64 nx] (by simp) rfl (Nat.zero_le _) (by simp [maxLen])).rd (by simp; omega) (by simp; omega) (ys ++ [nx]) rfl ?_; intro A3 c3 w3 own3 hg3 hb3))
              have oc3 := (own2.alloc (.cells #[.int .i64 nx] 2)).setGrown hg3 (by simp; omega) (fun b q1 q2 e => by have := (owni2.ge e.symm).1; omega)
              have on3 := (hp.1.alloc (.cells #[.int .i64 nx] 2)).grown hg3 (.inr (fun e => by have := (owni2.ge (g := w.heap.size) e.symm).1; omega))
              have hB3 := (hBi2.alloc hBi2.size (.cells #[.int .i64 nx] 2)).grown hg3 (by simp; omega) (fun q hq => by have := (owni2.ge hq).1; omega)
              have hz3 := hg3.size
              simp only [World.size_alloc, World.size_setCell] at hz3
              go_roundw
              case rel => exact ⟨j + 1, A3, c3, ys ++ [nx], acc ++ [(crI x, (acc.length : Int))], by omega, by go_num, by simp, by rw [HNX.out]; simp, HA, HY, own3, oc3, on3, hB3, by omega⟩
              case measure => simp [intOf]; omega
            · have HY : Hid (ys ++ [-nx] = renRow F (xs.take (j + 1))) := hide (by rw [renRow_next hx, renX_down hFv hx0, ← hys.out, hnxe]; simp; omega)
              have wneg : IntKind.i64.wrap (-nx) = -nx := by rw [IntKind.wrap_i64]; omega
              rw [← hnxe]
              clear hx hlx hnx hst hFv hq hq2 hcm hnxe hput
              go_wp2_with (first
                | (go_at_call 89; refine (l15Size_any _ _ hwn hwx).mono ?_; rintro e w' ⟨rfl, rfl⟩; rw [hm])
                | (at_builtin; refine wpList_append_ints rfl (.tmp 61) (.tmp 67) rfl wo.heap.size A2 c2 ys rfl (owni2.alloc _) (some ⟨wr.heap.size, 0, none⟩) 1 [-nx] rfl (OwnI.new_ (base := 0) _ _ [-nx] #[.int .i64 (-nx)] (by simp) rfl (Nat.zero_le _) (by simp [maxLen])).rd (by simp; omega) (by simp; omega) (ys ++ [-nx]) rfl ?_; intro A3 c3 w3 own3 hg3 hb3))
              have oc3 := (own2.alloc (.cells #[.int .i64 (-nx)] 2)).setGrown hg3 (by simp; omega) (fun b q1 q2 e => by have := (owni2.ge e.symm).1; omega)
              have on3 := (hp.1.alloc (.cells #[.int .i64 (-nx)] 2)).grown hg3 (.inr (fun e => by have := (owni2.ge (g := w.heap.size) e.symm).1; omega))
              have hB3 := (hBi2.alloc hBi2.size (.cells #[.int .i64 (-nx)] 2)).grown hg3 (by simp; omega) (fun q hq => by have := (owni2.ge hq).1; omega)
              have hz3 := hg3.size
              simp only [World.size_alloc, World.size_setCell] at hz3
              go_roundw
              case rel => exact ⟨j + 1, A3, c3, ys ++ [-nx], acc ++ [(crI x, (acc.length : Int))], by omega, by go_num, by simp, by rw [HNX.out]; simp, HA, HY, own3, oc3, on3, hB3, by omega⟩
              case measure => simp [intOf]; omega
          | some v =>
            have hq := nameL_some (N := N) hmN (show acc.lookup ((m : Int) - 1) = some v by rw [← hcm]; exact hlx)
            obtain ⟨g, hg, _, hgs, hcell, hfr, _⟩ := intE_at onm hq
            injection hg with hg
            injection hg with hg
            subst hg
            have hok := numsL_ok (upTo code k j)
            rw [← hacc.out] at hok
            obtain ⟨v0, v1⟩ := hok _ _ hlx
            obtain ⟨nx, hnxe⟩ : ∃ nx : Int, nx = v + 1 := ⟨_, rfl⟩
            rw [← hnxe] at hcell
            have hst : numStep acc (crI x) = acc := by unfold numStep; rw [if_neg (by rw [hlx]; simp)]
            have HA : Hid (acc = numsL (upTo code k (j + 1))) := hide (by rw [hnx, hst])
            have hFv : F (crI x) = some v := by rw [HF.out]; exact ren_name HX.out hx (by rw [hnx, hst]; exact hlx)
            have hn0 : (nx == 0) = false := beq_eq_false_iff_ne.2 (by omega)
            by_cases hx0 : 0 < x
            · have HY : Hid (ys ++ [nx] = renRow F (xs.take (j + 1))) := hide (by rw [renRow_next hx, renX_up hFv hx0, ← hys.out, hnxe]; simp)
              clear hx hlx hnx hst hFv hq hcm hnxe
              go_wp2_with (first
                | (go_at_call 89; refine (l15Size_any _ _ hwn hwx).mono ?_; rintro e w' ⟨rfl, rfl⟩; rw [hm])
                | (at_builtin; refine wpList_append_ints rfl (.tmp 54) (.tmp 59) rfl wo.heap.size A2 c2 ys rfl (owni.alloc _) (some ⟨wr.heap.size, 0, none⟩) 1 [nx] rfl (OwnI.new_ (base := 0) _ _ [nx] #[.int .i64 nx] (by simp) rfl (Nat.zero_le _) (by simp [maxLen])).rd (by simp; omega) (by simp; omega) (ys ++ [nx]) rfl ?_; intro A3 c3 w3 own3 hg3 hb3))
              have oc3 := (own.alloc (.cells #[.int .i64 nx] 2)).setGrown hg3 (by simp; omega) (fun b q1 q2 e => by have := (owni.ge e.symm).1; omega)
              have on3 := (onm.alloc (.cells #[.int .i64 nx] 2)).grown hg3 (.inr (fun e => by have := (owni.ge (g := w.heap.size) e.symm).1; omega))
              have hB3 := (hBi.alloc hBi.size (.cells #[.int .i64 nx] 2)).grown hg3 (by simp; omega) (fun q hq => by have := (owni.ge hq).1; omega)
              have hz3 := hg3.size
              simp only [World.size_alloc] at hz3
              go_roundw
              case rel => exact ⟨j + 1, A3, c3, ys ++ [nx], acc, by omega, by go_num, by simp, rfl, HA, HY, own3, oc3, on3, hB3, by omega⟩
              case measure => simp [intOf]; omega
            · have HY : Hid (ys ++ [-nx] = renRow F (xs.take (j + 1))) := hide (by rw [renRow_next hx, renX_down hFv hx0, ← hys.out, hnxe]; simp; omega)
              have wneg : IntKind.i64.wrap (-nx) = -nx := by rw [IntKind.wrap_i64]; omega
              clear hx hlx hnx hst hFv hq hcm hnxe
              go_wp2_with (first
                | (go_at_call 89; refine (l15Size_any _ _ hwn hwx).mono ?_; rintro e w' ⟨rfl, rfl⟩; rw [hm])
                | (at_builtin; refine wpList_append_ints rfl (.tmp 61) (.tmp 67) rfl wo.heap.size A2 c2 ys rfl (owni.alloc _) (some ⟨wr.heap.size, 0, none⟩) 1 [-nx] rfl (OwnI.new_ (base := 0) _ _ [-nx] #[.int .i64 (-nx)] (by simp) rfl (Nat.zero_le _) (by simp [maxLen])).rd (by simp; omega) (by simp; omega) (ys ++ [-nx]) rfl ?_; intro A3 c3 w3 own3 hg3 hb3))
              have oc3 := (own.alloc (.cells #[.int .i64 (-nx)] 2)).setGrown hg3 (by simp; omega) (fun b q1 q2 e => by have := (owni.ge e.symm).1; omega)
              have on3 := (onm.alloc (.cells #[.int .i64 (-nx)] 2)).grown hg3 (.inr (fun e => by have := (owni.ge (g := w.heap.size) e.symm).1; omega))
              have hB3 := (hBi.alloc hBi.size (.cells #[.int .i64 (-nx)] 2)).grown hg3 (by simp; omega) (fun q hq => by have := (owni.ge hq).1; omega)
              have hz3 := hg3.size
              simp only [World.size_alloc] at hz3
              go_roundw
              case rel => exact ⟨j + 1, A3, c3, ys ++ [-nx], acc, by omega, by go_num, by simp, rfl, HA, HY, own3, oc3, on3, hB3, by omega⟩
              case measure => simp [intOf]; omega
        · have hys' := hys.out
          rw [List.take_of_length_le (by omega)] at hys'
          have HZ : Hid (zs ++ [ys] = renC F (code.take (k + 1))) := hide (by rw [renC_next HX.out, ← hzs.out, hys'])
          have HA : Hid (acc = numsL (upTo code (k + 1) 0)) := hide (by rw [← upTo_row (k := j) HX.out (by omega)]; exact hacc.out)
          have hown2 := own
          clear hys hys' hacc
          go_wp2_with (at_builtin; refine wpList_append_code rfl (.tmp 69) (.tmp 71) rfl (w.heap.size + 1) wo.heap.size A1 c1 zs rfl (own.alloc _) (some ⟨wr.heap.size, 0, none⟩) 1 rfl A2 c2 ys (RG.fresh (E := hdE) wr _ rfl ⟨A2, ys.length, c2⟩ #[.slice A2 ys.length c2] rfl _) (owni.alloc _) hzo (by simp; omega) hzl (zs ++ [ys]) rfl ?_; intro A3 c3 w3 own3 hg3 hb3)
          have on3 := (onm.alloc (.cells #[.slice A2 ys.length c2] 34)).grown hg3 (.inr (fun e => by have := (own.ge_ (g := w.heap.size) e.symm).1; omega))
          have hB3 := (hBi.alloc hBi.size (.cells #[.slice A2 ys.length c2] 34)).grown hg3 (by simp; omega) (fun q hq => by have := (own.ge_ hq).1; omega)
          go_roundw
          case rel => exact ⟨k + 1, A3, c3, zs ++ [ys], acc, by omega, by go_num, by simp, rfl, HA, HZ, own3, on3, hB3⟩
          case measure => simp [intOf]; omega
    · have hzs' := hzs.out
      rw [List.take_of_length_le (by omega), HF.out] at hzs'
      have HZ : Hid (zs = renameC code) := hide hzs'
      clear hzs hzs'
      go_wp2_with fail
      go_ret
      rw [← HZ.out]
      exact ⟨A1, c1, rfl, own.mono (by omega) (Nat.le_refl _), hB⟩
end Go.Proofs.Ytnjojnnapdhijaa
