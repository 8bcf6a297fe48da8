/-
  Contract: the code of a panel. Conditions: a valid panel.
-/
import Derived.Test.YtnjojnnapdhijaaPasses
import Derived.Test.YtnjojnnapdhijaaCode1
namespace Go.Proofs.Ytnjojnnapdhijaa
open Go.RowKit
set_option linter.unusedVariables false

def psN (p : Int × Bool) : Int := if p.2 then p.1 + 1 else -(p.1 + 1)
/-- the code of a curve, of a panel -/
def curN (wd ht : Int) (xs : List Int) (c : List Wk) : List Int := (psL wd ht xs c).map psN
noncomputable def codN (wd ht : Int) (xs : List Int) : List (List Int) := (curL wd ht xs).map (curN wd ht xs)
section
variable {wd ht : Int} {xs : List Int}
theorem codN_len : (codN wd ht xs).length = (curL wd ht xs).length := by simp [codN]
theorem codN_next {i : Nat} {c : List Wk} (h : (curL wd ht xs)[i]? = some c) : (codN wd ht xs).take (i + 1) = (codN wd ht xs).take i ++ [curN wd ht xs c] := by
  unfold codN
  rw [List.take_add_one, List.getElem?_map, h]
  rfl
theorem psL_b (hs : Sz wd ht) (hl : (xs.length : Int) = innerN wd ht) {i : Nat} {c : List Wk} (hc : (curL wd ht xs)[i]? = some c) {p : Int × Bool} (h : p ∈ psL wd ht xs c) (hn : xs.length ≤ 1048576) : 0 ≤ p.1 ∧ p.1 ≤ 1048576 := by
  unfold psL at h
  obtain ⟨x, hxc, hx⟩ := List.mem_flatMap.1 h
  unfold psOf at hx
  split at hx
  · rename_i hcr
    rw [List.mem_singleton] at hx
    rw [hx]
    have h1 := idx_lt hs hl (cur_ok hs hc hxc) hcr
    have h2 := zTo_len xs xs.length
    exact ⟨Int.natCast_nonneg _, by show ((idxW wd xs x : Nat) : Int) ≤ 1048576; omega⟩
  · cases hx
end
/-- A row of passes of its own, and a number. -/
def RetPsC (w : World) (ps : List (Int × Bool)) (v : Int) (e : Ending) (w' : World) : Prop := ∃ A c, e = .returned (.tuple #[.slice A ps.length c, .int .i64 v]) ∧ Own psE w' w.heap.size A c ps ∧ Below w.heap.size w w'
set_option maxHeartbeats 4000000 in
theorem l13Of_any (b0 : Nat) (wd ht : Int) (A : Option Addr) (c : Nat) (xs : List Int) (i : Nat) (cur : List Wk) (w : World) (hp : PA w b0 wd ht A c xs) (hv : vldPan wd ht xs = true) (hs : Sz wd ht) (hl : (xs.length : Int) = innerN wd ht) (hn : xs.length ≤ 1048576) (hc : (curL wd ht xs)[i]? = some cur) :
    Calls Try.prog 140 #[.pointer (some ⟨b0, 0, none⟩), .int .i64 (i : Int)] w (RetPsC w (psL wd ht xs cur) 0) := by
  have hcl : (curL wd ht xs).length ≤ 256 := by have h1 := (trInv_all (xs := xs) hs).cnt; have h2 := nSeg_int hs; simp only at h1; omega
  have hi := (List.getElem?_eq_some_iff.1 hc).1
  obtain ⟨j, hj, hcj, hoj, hmin⟩ := (trInv_all (xs := xs) hs).start i _ hc
  have hwk := (walkK_ok hs hj).1
  have HOK := hide (RetQ.v (l02Ok_any b0 wd ht A c xs w hp.c0 hp.c1 hp.c2 hp.rd hn))
  have HST := hide (fun (W : World) (h : PA W b0 wd ht A c xs) => l13Start_any b0 wd ht A c xs i j W h hs hl hj hoj hmin (by omega))
  have HPS := hide (fun (W : World) (h : PA W b0 wd ht A c xs) => l13Passes_any b0 wd ht A c xs (walkK ht j) W h hs hl hn hwk)
  rw [← hcj] at HPS
  rw [hv] at HOK
  obtain ⟨a, ha⟩ : ∃ a, a = walkK ht j := ⟨_, rfl⟩
  obtain ⟨ps, hps⟩ : ∃ ps, ps = psL wd ht xs cur := ⟨_, rfl⟩
  rw [← ha] at HST HPS
  rw [← hps] at HPS ⊢
  have hi0 : ¬ ((i : Int) < 0) := by omega
  have HP := hide hp
  clear ha hps hwk hoj hmin hcj hc hs hl hp hv
  go_enter Try.func140, Try.ntmps140
  go_wp2_with fail
  refine HOK.out.mono ?_
  rintro e w1 ⟨rfl, hb1⟩
  have p1 := HP.out.below hb1
  go_wp2_with fail
  refine (HST.out _ p1).mono ?_
  rintro e w2 ⟨rfl, hb2⟩
  have p2 := (p1.below hb2).alloc (.cells #[.int .i64 a.x, .int .i64 a.y, .int .i64 a.dx, .int .i64 a.dy] 112)
  have q2 : Bx (w2.alloc (.cells #[.int .i64 a.x, .int .i64 a.y, .int .i64 a.dx, .int .i64 a.dy] 112)) w2.heap.size 112 #[.int .i64 a.x, .int .i64 a.y, .int .i64 a.dx, .int .i64 a.dy] := Bx.new _ _ _
  have B2 := (hb1.trans (hb2.mono hb1.size)).alloc (Nat.le_trans hb1.size hb2.size) (.cells #[.int .i64 a.x, .int .i64 a.y, .int .i64 a.dx, .int .i64 a.dy] 112)
  obtain ⟨qa, qb, qc, qd⟩ := q2.four
  go_wp2_with fail
  refine (HPS.out _ p2).mono ?_
  rintro e w3 ⟨A3, c3, rfl, own3, hb3⟩
  have hz2 := B2.size
  have B3 := B2.trans (hb3.mono hz2)
  go_wp2_with fail
  go_ret2
  exact ⟨A3, c3, rfl, own3.mono hz2, B3⟩
theorem OwnC.ge_' {w : World} {base top : Nat} {A : Option Addr} {c : Nat} {code : List (List Int)} (h : OwnC w base top A c code) {g : Nat} (hg : blk A = some g) : base ≤ g ∧ g < top := by
  obtain ⟨hs, h1, h2, h3, h4, h5⟩ := h
  exact ⟨(h1.ge hg).1, h2 g hg⟩
theorem OwnC.setGrown_ {w w' : World} {base top : Nat} {A : Option Addr} {c : Nat} {code : List (List Int)} {row : Option Nat} (h : OwnC w base top A c code) (hg : w.grownBy w' row) (hs : top ≤ w.heap.size) (hr : ∀ b, base ≤ b → b < top → some b ≠ row) : OwnC w' base top A c code :=
  h.keep fun b h1 h2 => hg.block b (by omega) (hr b h1 h2)
set_option maxRecDepth 20000 in
set_option maxHeartbeats 8000000 in
theorem l14Of_any (b0 : Nat) (wd ht : Int) (A : Option Addr) (c : Nat) (xs : List Int) (w : World) (hp : PA w b0 wd ht A c xs) (hv : vldPan wd ht xs = true) (hs : Sz wd ht) (hl : (xs.length : Int) = innerN wd ht) (hn : xs.length ≤ 1048576) :
    Calls Try.prog 128 #[.pointer (some ⟨b0, 0, none⟩)] w (RetC w (codN wd ht xs)) := by
  have hcl : (curL wd ht xs).length ≤ 256 := by have h1 := (trInv_all (xs := xs) hs).cnt; have h2 := nSeg_int hs; simp only at h1; omega
  have hsg := nSeg_int hs
  have HCNT := hide (fun (W : World) (h : PA W b0 wd ht A c xs) => l04Count_any b0 wd ht A c xs W h hs hl)
  have HOF := hide (fun (i : Nat) (cur : List Wk) (W : World) (h : PA W b0 wd ht A c xs) (hc : (curL wd ht xs)[i]? = some cur) => l13Of_any b0 wd ht A c xs i cur W h hv hs hl hn hc)
  have HLEN := hide (fun (i : Nat) (cur : List Wk) (hc : (curL wd ht xs)[i]? = some cur) => (show (psL wd ht xs cur).length ≤ 256 by
    obtain ⟨j, hj, hcj, _, _⟩ := (trInv_all (xs := xs) hs).start i _ hc
    have h1 := psL_len (wd := wd) (ht := ht) (xs := xs) cur
    rw [hcj, orbW_len] at h1
    have h2 := (per_spec (xs := xs) hs (walkK_ok hs hj).1).2.2.1
    rw [← hcj] at h1
    omega))
  have HBD := hide (fun (i : Nat) (cur : List Wk) (hc : (curL wd ht xs)[i]? = some cur) (p : Int × Bool) (h : p ∈ psL wd ht xs cur) => psL_b hs hl hc h hn)
  have HNX := hide (fun (i : Nat) (cur : List Wk) (hc : (curL wd ht xs)[i]? = some cur) => codN_next (wd := wd) (ht := ht) (xs := xs) hc)
  have HCL : Hid ((codN wd ht xs).length = (curL wd ht xs).length) := hide codN_len
  have HCU := hide (fun (i : Nat) (hi : i < (curL wd ht xs).length) => (show ∃ cur, (curL wd ht xs)[i]? = some cur from ⟨_, List.getElem?_eq_getElem hi⟩))
  obtain ⟨K, hK⟩ : ∃ K, K = (curL wd ht xs).length := ⟨_, rfl⟩
  rw [← hK] at HCL HCU hcl HCNT
  have HP := hide hp
  have he : OwnC (w.alloc (.cells #[] 34)) w.heap.size (w.alloc (.cells #[] 34)).heap.size (some ⟨w.heap.size, 0, none⟩) 0 [] := (OwnC.empty_ w _ rfl (Nat.le_refl _)).mono (Nat.le_refl _) (by simp)
  have hB0 : Below w.heap.size w (w.alloc (.cells #[] 34)) := (Below.refl _ _).alloc (Nat.le_refl _) _
  clear hK hp hv hs hl hsg
  go_enter Try.func128, Try.ntmps128
  go_wp2_with fail
  refine (HCNT.out _ (HP.out.below hB0)).mono ?_
  rintro e w1 ⟨rfl, hb1⟩
  have own1 := (he.below hb1).mono (Nat.le_refl _) hb1.size
  have B1 := hB0.trans (hb1.mono hB0.size)
  clear he hB0 hb1
  go_wp2_with fail
  go_loopw [3, 5] (fun o i wr => ∃ (k : Nat) (A1 : Option Addr) (c1 : Nat) (zs : List (List Int)), k ≤ K ∧ i = .int .i64 k ∧ o = .slice A1 zs.length c1 ∧ zs.length ≤ k ∧ Hid (zs = (codN wd ht xs).take k) ∧ OwnC wr w.heap.size wr.heap.size A1 c1 zs ∧ Below w.heap.size w wr) (fun _ i _ => K - (intOf i).toNat)
  case atStart => exact ⟨0, _, 0, [], Nat.zero_le _, rfl, rfl, Nat.le_refl _, hide rfl, own1, B1⟩
  case round =>
    clear own1 B1
    obtain ⟨k, A1, c1, zs, hk, rfl, rfl, hzk, hzs, own, hB⟩ := hrel
    have hz := hB.size
    by_cases hlt : k < K
    · obtain ⟨cur, hc⟩ := HCU.out k hlt
      have HO := hide (fun (W : World) (h : PA W b0 wd ht A c xs) => HOF.out k cur W h hc)
      have hll := HLEN.out k cur hc
      have HB2 := hide (HBD.out k cur hc)
      have HN := hide (HNX.out k cur hc)
      have HCN : Hid (curN wd ht xs cur = (psL wd ht xs cur).map psN) := hide rfl
      obtain ⟨ps, hps⟩ : ∃ ps, ps = psL wd ht xs cur := ⟨_, rfl⟩
      rw [← hps] at HO hll HB2 HCN
      clear hps hc
      obtain ⟨wo, rfl⟩ : ∃ wo, wo = wr := ⟨_, rfl⟩
      go_wp2_with fail
      refine (HO.out _ (HP.out.below hB)).mono ?_
      rintro e w2 ⟨A2, c2, rfl, op, hb2⟩
      have own2 := (own.below hb2).alloc (.cells #[] 2)
      have hB2 := (hB.trans (hb2.mono hz)).alloc (Nat.le_trans hz hb2.size) (.cells #[] 2)
      have hz2 := hb2.size
      have or0 := OwnI.empty_ w2 (base := wo.heap.size) w2.heap.size rfl hz2
      have op2 := op.alloc (.cells #[] 2)
      have hz3 : wo.heap.size ≤ (w2.alloc (.cells #[] 2)).heap.size := by simp; omega
      clear own hB op hb2
      go_wp2_with fail
      go_loopw [8, 9] (fun o i wr => ∃ (m : Nat) (A4 : Option Addr) (c4 : Nat) (ys : List Int), m ≤ ps.length ∧ i = .int .i64 m ∧ o = .slice A4 ys.length c4 ∧ ys.length ≤ m ∧ Hid (ys = (ps.take m).map psN) ∧ OwnI wr wo.heap.size A4 c4 ys ∧ Own psE wr wo.heap.size A2 c2 ps ∧ OwnC wr w.heap.size wo.heap.size A1 c1 zs ∧ wo.heap.size ≤ wr.heap.size ∧ Below w.heap.size w wr) (fun _ i _ => ps.length - (intOf i).toNat)
      case atStart => exact ⟨0, _, 0, [], Nat.zero_le _, rfl, rfl, Nat.le_refl _, hide rfl, or0, op2, own2, hz3, hB2⟩
      case round =>
        clear or0 op2 own2 hB2 hz2 hz3
        obtain ⟨m, A4, c4, ys, hm, rfl, rfl, hym, hys, oy, op, own, hzo, hB⟩ := hrel
        have hzB := hB.size
        by_cases hlt2 : m < ps.length
        · obtain ⟨gp, offp, p, hA2, hgp, hpx, hcp⟩ := op.rd.row hlt2
          have hcp0 : wr.cell? ⟨gp, offp + m * 2, none⟩ = some (.int .i64 p.1) := hcp 0 _ rfl
          have hcp1 : wr.cell? ⟨gp, offp + m * 2 + 1, none⟩ = some (.bool p.2) := hcp 1 _ rfl
          have hpb := HB2.out p (List.mem_of_getElem? hpx)
          subst hA2
          have HNY : Hid (ys ++ [psN p] = (ps.take (m + 1)).map psN) := hide (by rw [List.take_add_one, hpx, List.map_append, ← hys.out]; rfl)
          obtain ⟨p1, p2⟩ := p
          simp only at hcp0 hcp1 hpb
          clear hcp hpx hys
          have hzw := hB.size
          have hwo : w.heap.size ≤ wo.heap.size := hz
          rcases p2 with _ | _
          · have HPN : Hid (psN (p1, false) = -(p1 + 1)) := hide rfl
            rw [HPN.out] at HNY
            go_wp2_with (at_builtin; refine wpList_append_ints rfl (.tmp 46) (.tmp 48) rfl wo.heap.size A4 c4 ys rfl (oy.alloc _) (some ⟨wr.heap.size, 0, none⟩) 1 [-(p1 + 1)] rfl (OwnI.new (base := 0) wr [-(p1 + 1)] #[.int .i64 (-(p1 + 1))] rfl (Nat.zero_le _) (by simp [maxLen])).rd (by simp; omega) (by simp; omega) (ys ++ [-(p1 + 1)]) rfl ?_; intro A5 c5 w5 own5 hg5 hb5)
            go_roundw
            case rel => exact ⟨m + 1, A5, c5, _, by omega, by go_num, by simp, by simp; omega, HNY, own5, (op.alloc _).grownInts hg5 (oy.alloc _) (by decide), (own.alloc _).setGrown_ hg5 (by simp; omega) (fun b h1 h2 e => by have := (oy.ge e.symm).1; omega), Nat.le_trans (by simp; omega) hg5.size, (hB.alloc hzB _).grown hg5 (by simp; omega) (fun q hq => by have := (oy.ge hq).1; omega)⟩
            case measure => simp [intOf]; omega
          · have HPN : Hid (psN (p1, true) = p1 + 1) := hide rfl
            rw [HPN.out] at HNY
            go_wp2_with (at_builtin; refine wpList_append_ints rfl (.tmp 46) (.tmp 48) rfl wo.heap.size A4 c4 ys rfl (oy.alloc _) (some ⟨wr.heap.size, 0, none⟩) 1 [p1 + 1] rfl (OwnI.new (base := 0) wr [p1 + 1] #[.int .i64 (p1 + 1)] rfl (Nat.zero_le _) (by simp [maxLen])).rd (by simp; omega) (by simp; omega) (ys ++ [p1 + 1]) rfl ?_; intro A5 c5 w5 own5 hg5 hb5)
            go_roundw
            case rel => exact ⟨m + 1, A5, c5, _, by omega, by go_num, by simp, by simp; omega, HNY, own5, (op.alloc _).grownInts hg5 (oy.alloc _) (by decide), (own.alloc _).setGrown_ hg5 (by simp; omega) (fun b h1 h2 e => by have := (oy.ge e.symm).1; omega), Nat.le_trans (by simp; omega) hg5.size, (hB.alloc hzB _).grown hg5 (by simp; omega) (fun q hq => by have := (oy.ge hq).1; omega)⟩
            case measure => simp [intOf]; omega
        · have hmp : m = ps.length := by omega
          have hy2 := hys.out
          rw [hmp, List.take_of_length_le (Nat.le_refl _), ← HCN.out] at hy2
          have HZ : Hid (zs ++ [ys] = (codN wd ht xs).take (k + 1)) := hide (by rw [HN.out, hy2, ← hzs.out])
          have hwo : w.heap.size ≤ wo.heap.size := hz
          clear hys hy2 hmp hzs
          go_wp2_with (at_builtin; refine wpList_append_code rfl (.tmp 50) (.tmp 52) rfl w.heap.size wo.heap.size A1 c1 zs rfl (own.alloc _) (some ⟨wr.heap.size, 0, none⟩) 1 rfl A4 c4 ys (RG.fresh (E := hdE) wr _ rfl ⟨A4, ys.length, c4⟩ #[.slice A4 ys.length c4] rfl _) (oy.alloc _) hwo (by simp; omega) (by omega) (zs ++ [ys]) rfl ?_; intro A5 c5 w5 own5 hg5 hb5)
          go_roundw
          case rel => exact ⟨k + 1, A5, c5, zs ++ [ys], by omega, by go_num, by simp, by simp; omega, HZ, own5, (hB.alloc hzB _).grown hg5 (by simp; omega) (fun q hq => (own.ge_' hq).1)⟩
          case measure => simp [intOf]; omega
    · have hkk : k = K := by omega
      have hz2 := hzs.out
      rw [List.take_of_length_le (by rw [HCL.out]; omega)] at hz2
      have HZ := hide hz2
      clear hzs hz2 hkk
      go_wp2_with fail
      go_ret
      have := HZ.out
      subst this
      exact ⟨A1, c1, rfl, own, hB⟩
end Go.Proofs.Ytnjojnnapdhijaa
