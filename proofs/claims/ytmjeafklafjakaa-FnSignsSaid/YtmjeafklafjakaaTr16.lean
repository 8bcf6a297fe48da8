/-
  Contracts: OwnWrithe, LinkingNumber, of the reference and of the program. Conditions: the lengths are far below the machine's.
-/
import Derived.Test.YtmjeafklafjakaaTr15
namespace Go.Proofs.Ytmjeafklafjakaa
open Go.RowKit
set_option linter.unusedVariables false

/-- the number of curves -/
noncomputable def cvN (wd ht : Int) (xs : List Int) : Nat := (curL wd ht xs).length
/-- the code of a panel and some curves -/
noncomputable def cvC (wd ht : Int) (xs : List Int) (ks : List Int) : Int := if vldPan wd ht xs then (if ks.all (fun k => inB k 0 ((cvN wd ht xs : Int) - 1)) then 0 else 2) else 1
section
variable {wd ht : Int} {xs ks : List Int}
theorem cvN_le (h : vldPan wd ht xs = true) : cvN wd ht xs ≤ 256 := cur_le (vld_sz h).1
theorem cvC_no (h : vldPan wd ht xs = false) : cvC wd ht xs ks = 1 := by unfold cvC; rw [h]; rfl
theorem cvC_rg (h : vldPan wd ht xs = true) (h2 : ks.all (fun k => inB k 0 ((cvN wd ht xs : Int) - 1)) = false) : cvC wd ht xs ks = 2 := by unfold cvC; rw [h, h2]; rfl
theorem cvC_ok (h : vldPan wd ht xs = true) (h2 : ks.all (fun k => inB k 0 ((cvN wd ht xs : Int) - 1)) = true) : cvC wd ht xs ks = 0 := by unfold cvC; rw [h, h2]; rfl
theorem cvC_zero (h : cvC wd ht xs ks = 0) : vldPan wd ht xs = true ∧ ∀ k ∈ ks, 0 ≤ k ∧ k.toNat < cvN wd ht xs := by
  unfold cvC at h
  split at h
  · rename_i h1
    split at h
    · rename_i h2
      refine ⟨h1, fun k hk => ?_⟩
      obtain ⟨g1, g2⟩ := inB_true.1 (List.all_eq_true.1 h2 k hk)
      omega
    · omega
  · omega
theorem cvC_two (a b : Int) : cvC wd ht xs [a, b] = if cvC wd ht xs [a] = 0 then cvC wd ht xs [b] else cvC wd ht xs [a] := by
  unfold cvC
  cases vldPan wd ht xs
  · simp
  · simp only [List.all_cons, List.all_nil, Bool.and_true, if_true]
    cases inB a 0 ((cvN wd ht xs : Int) - 1) <;> cases inB b 0 ((cvN wd ht xs : Int) - 1) <;> simp
end
/-- A function that hands back a slice, of no matter, and a number. -/
def RetSI (w : World) (v : Int) (e : Ending) (w' : World) : Prop := ∃ A n c, e = .returned (.tuple #[.slice A n c, .int .i64 v]) ∧ Below w.heap.size w w'

set_option maxHeartbeats 4000000 in
theorem l04Code_any (b0 : Nat) (wd ht : Int) (A : Option Addr) (c : Nat) (xs : List Int) (k : Int) (w : World) (hp : PA w b0 wd ht A c xs) (hn : xs.length ≤ 1048576) :
    Calls Try.prog 36 #[.pointer (some ⟨b0, 0, none⟩), .int .i64 k] w (RetSI w (cvC wd ht xs [k])) := by
  have HOK := hide (RetQ.v (l02Ok_any b0 wd ht A c xs w hp.c0 hp.c1 hp.c2 hp.rd hn))
  cases hv : vldPan wd ht xs
  · have HV := hide (cvC_no (ks := [k]) hv)
    go_enter Try.func36, Try.ntmps36
    go_wp2_with fail
    refine HOK.out.mono ?_
    rintro e w1 ⟨rfl, hb1⟩
    rw [hv]
    go_wp2_with fail
    go_ret2
    rw [HV.out]
    exact ⟨none, 0, 0, rfl, hb1⟩
  · obtain ⟨hs, hl⟩ := vld_sz hv
    have hcn := cvN_le hv
    have HALL := hide (fun (W : World) (h : PA W b0 wd ht A c xs) => l04All_any b0 wd ht A c xs W h hs hl)
    have HCN : Hid ((curL wd ht xs).length = cvN wd ht xs) := hide rfl
    cases hk : inB k 0 ((cvN wd ht xs : Int) - 1)
    · have HV := hide (cvC_rg (ks := [k]) hv (by simp [hk]))
      go_enter Try.func36, Try.ntmps36
      go_wp2_with fail
      refine HOK.out.mono ?_
      rintro e w1 ⟨rfl, hb1⟩
      rw [hv]
      go_wp2_with fail
      refine (HALL.out _ (hp.below hb1)).mono ?_
      rintro e w2 ⟨A1, c1, B1, d1, rfl, _, hb2⟩
      have hB2 := hb1.trans (hb2.mono hb1.size)
      rw [HCN.out]
      go_wp2_with (go_at_call 39; refine (l00In_any _ _ _ _).mono ?_; rintro e w' ⟨rfl, rfl⟩; rw [hk])
      go_ret2
      rw [HV.out]
      exact ⟨_, _, _, rfl, hB2⟩
    · have HV := hide (cvC_ok (ks := [k]) hv (by simp [hk]))
      go_enter Try.func36, Try.ntmps36
      go_wp2_with fail
      refine HOK.out.mono ?_
      rintro e w1 ⟨rfl, hb1⟩
      rw [hv]
      go_wp2_with fail
      refine (HALL.out _ (hp.below hb1)).mono ?_
      rintro e w2 ⟨A1, c1, B1, d1, rfl, _, hb2⟩
      have hB2 := hb1.trans (hb2.mono hb1.size)
      rw [HCN.out]
      go_wp2_with (go_at_call 39; refine (l00In_any _ _ _ _).mono ?_; rintro e w' ⟨rfl, rfl⟩; rw [hk])
      go_ret2
      rw [HV.out]
      exact ⟨_, _, _, rfl, hB2⟩

theorem take_all_next {p : Int → Bool} {ks : List Int} {j : Nat} {v : Int} (hv : ks[j]? = some v) (h : (ks.take j).all p = true) (hp : p v = true) : (ks.take (j + 1)).all p = true := by
  rw [List.take_add_one, hv, List.all_append, h]
  simp [hp]
set_option maxHeartbeats 4000000 in
theorem curveCode_any (wd ht : Int) (A B : Option Addr) (c d : Nat) (xs ks : List Int) (w : World) (hxs : RI w A xs) (hks : RI w B ks) (hn : xs.length ≤ 1048576) (hk2 : ks.length ≤ 2) :
    Calls Try.prog 34 #[.agg #[.int .i64 wd, .int .i64 ht, .slice A xs.length c], .slice B ks.length d] w (RetV w (.int .i64 (cvC wd ht xs ks))) := by
  obtain ⟨pa_x1, pb_x1, pc_x1⟩ := (Bx.new_ w (w.heap.size) 26 #[.int .i64 wd, .int .i64 ht, .slice A xs.length c] (by simp)).three
  have HOK := hide (validPanel_any wd ht A c xs (w.alloc (.cells #[.int .i64 wd, .int .i64 ht, .slice A xs.length c] 26)) (hxs.below ((Below.refl w.heap.size w).alloc (by first | omega | (simp; omega) | simp) (.cells #[.int .i64 wd, .int .i64 ht, .slice A xs.length c] 26))) hn)
  cases hv : vldPan wd ht xs
  ·
    have HV := hide (cvC_no (ks := ks) hv)
    go_enter Try.func34, Try.ntmps34
    go_wp2_with fail
    refine (HOK.out).mono ?_
    rintro e w1 ⟨rfl, hb1⟩
    have p_1 := (Bx.new_ w (w.heap.size) 26 #[.int .i64 wd, .int .i64 ht, .slice A xs.length c] (by simp)).below hb1
    obtain ⟨pa_1, pb_1, pc_1⟩ := (p_1).three
    have z_1 : (w.alloc (.cells #[.int .i64 wd, .int .i64 ht, .slice A xs.length c] 26)).heap.size ≤ w1.heap.size := hb1.size
    simp only [World.size_alloc] at z_1
    have B_1 := ((Below.refl w.heap.size w).alloc (by first | omega | (simp; omega) | simp) (.cells #[.int .i64 wd, .int .i64 ht, .slice A xs.length c] 26)).trans (hb1.mono (by first | omega | (simp; omega) | simp))
    rw [hv]
    go_wp2_with fail
    go_ret
    rw [HV.out]
    exact ⟨rfl, (B_1)⟩
  ·
    obtain ⟨hs, hl⟩ := vld_sz hv
    have hcn := cvN_le hv
    have HV := hide hv
    have HCOUNT := hide (fun (W : World) (hb : Below w.heap.size w W) => countCurves_any wd ht A c xs W (hxs.below hb) hs hl)
    have HCN : Hid ((curL wd ht xs).length = cvN wd ht xs) := hide rfl
    clear hs hl
    go_enter Try.func34, Try.ntmps34
    go_wp2_with fail
    refine (HOK.out).mono ?_
    rintro e w2 ⟨rfl, hb2⟩
    have p_2 := (Bx.new_ w (w.heap.size) 26 #[.int .i64 wd, .int .i64 ht, .slice A xs.length c] (by simp)).below hb2
    obtain ⟨pa_2, pb_2, pc_2⟩ := (p_2).three
    have z_2 : (w.alloc (.cells #[.int .i64 wd, .int .i64 ht, .slice A xs.length c] 26)).heap.size ≤ w2.heap.size := hb2.size
    simp only [World.size_alloc] at z_2
    have B_2 := ((Below.refl w.heap.size w).alloc (by first | omega | (simp; omega) | simp) (.cells #[.int .i64 wd, .int .i64 ht, .slice A xs.length c] 26)).trans (hb2.mono (by first | omega | (simp; omega) | simp))
    rw [hv]
    clear hv
    have hp2 := (p_2)
    have hB2 := (B_2)
    go_wp2_with fail
    go_loopw [12] (fun jv wr => ∃ (j : Nat), j ≤ ks.length ∧ jv = .int .i64 (j : Int) ∧ Hid ((ks.take j).all (fun k => inB k 0 ((cvN wd ht xs : Int) - 1)) = true) ∧ Bx wr w.heap.size 26 #[.int .i64 wd, .int .i64 ht, .slice A xs.length c] ∧ Below w.heap.size w wr) (fun jv _ => ks.length - (intOf jv).toNat)
    case atStart => exact ⟨0, Nat.zero_le _, rfl, hide (by simp), hp2, hB2⟩
    case round =>
      clear hp2 hB2 p_2 pa_2 pb_2 pc_2 B_2
      obtain ⟨j, hj, rfl, hall, hp, hB⟩ := hrel
      have hz := hB.size
      have hr := hks.below hB
      obtain ⟨pa_0, pb_0, pc_0⟩ := hp.three
      by_cases hlt : j < ks.length
      · obtain ⟨b, off, v, rfl, hb, hvv, hcv⟩ := hr.at_ hlt
        cases hin : inB v 0 ((cvN wd ht xs : Int) - 1)
        · have HR : Hid (cvC wd ht xs ks = 2) := hide (cvC_rg HV.out (by
            cases hq : ks.all (fun k => inB k 0 ((cvN wd ht xs : Int) - 1)) with
            | false => rfl
            | true => have := List.all_eq_true.1 hq v (List.mem_of_getElem? hvv); rw [hin] at this; cases this))
          clear hvv
          go_wp2_with fail
          refine (HCOUNT.out _ hB).mono ?_
          rintro e w3 ⟨rfl, hb3⟩
          have hB3 := hB.trans (hb3.mono hz)
          rw [HCN.out]
          go_wp2_with (go_at_call 55; refine (inRange_any _ _ _ _).mono ?_; rintro e w' ⟨rfl, rfl⟩; rw [hin])
          go_ret
          rw [HR.out]
          exact ⟨rfl, hB3⟩
        · have HN := hide (take_all_next (p := fun k => inB k 0 ((cvN wd ht xs : Int) - 1)) hvv hall.out hin)
          clear hvv
          go_wp2_with fail
          refine (HCOUNT.out _ hB).mono ?_
          rintro e w3 ⟨rfl, hb3⟩
          have hB3 := hB.trans (hb3.mono hz)
          have hp3 := hp.below hb3
          rw [HCN.out]
          go_wp2_with (go_at_call 55; refine (inRange_any _ _ _ _).mono ?_; rintro e w' ⟨rfl, rfl⟩; rw [hin])
          go_roundw
          case rel => exact ⟨j + 1, by omega, by go_num, HN, hp3, hB3⟩
          case measure => simp [intOf]; omega
      · have HR : Hid (cvC wd ht xs ks = 0) := hide (cvC_ok HV.out (by have h := hall.out; rw [List.take_of_length_le (by omega)] at h; exact h))
        go_wp2_with fail
        go_ret
        rw [HR.out]
        exact ⟨rfl, hB⟩

end Go.Proofs.Ytmjeafklafjakaa
