/-
  Contracts: whether a move is possible, of the reference and of the program. Conditions: none beyond the lengths.
-/
import Derived.Test.YtocellbhpjiioaaGreatPairs
import Derived.Test.YtocellbhpjiioaaGreatMovesTextM
import Derived.Test.YtocellbhpjiioaaGreatBelM
import Derived.BigQuiet
namespace Go.Proofs.YtocellbhpjiioaaGreat
open Go.RowKit
set_option linter.unusedVariables false

def canB (code : List (List Int)) (m : Int × Int × Int) : Bool :=
  formB m && decide (m.2.1 < ((sumLen code / 2 : Nat) : Int)) && decide (m.2.2 < ((sumLen code / 2 : Nat) : Int)) && (if m.1 = 1 then loopK code m.2.1.toNat else pairK code m.2.1.toNat m.2.2.toNat)
theorem formB_parts {k a b : Int} (h : formB (k, a, b) = true) : 0 ≤ a ∧ a ≤ 119 ∧ ((k = 1 ∧ b = 0) ∨ (k = 2 ∧ a < b ∧ b ≤ 119)) := by
  unfold formB at h
  rw [Bool.and_eq_true] at h
  obtain ⟨h1, h2⟩ := h
  obtain ⟨h3, h4⟩ := inB_true.1 h1
  dsimp only at h2 h3 h4
  split at h2
  · rename_i hk
    have := of_decide_eq_true h2
    omega
  · rw [Bool.and_eq_true] at h2
    have h5 := of_decide_eq_true h2.1
    obtain ⟨h6, h7⟩ := inB_true.1 h2.2
    omega
theorem canB_form {code : List (List Int)} {m : Int × Int × Int} (h : formB m = false) : canB code m = false := by unfold canB; rw [h]; rfl
theorem canB_a {code : List (List Int)} {k a b : Int} (h : ¬ a < ((sumLen code / 2 : Nat) : Int)) : canB code (k, a, b) = false := by
  unfold canB
  rw [decide_eq_false h]
  simp
theorem canB_b {code : List (List Int)} {k a b : Int} (h : ¬ b < ((sumLen code / 2 : Nat) : Int)) : canB code (k, a, b) = false := by
  unfold canB
  rw [decide_eq_false h]
  simp
theorem canB_loop {code : List (List Int)} {k : Int} {a b : Nat} (h : formB (k, (a : Int), (b : Int)) = true) (h1 : a < sumLen code / 2) (h2 : b < sumLen code / 2) (hk : k = 1) : canB code (k, (a : Int), (b : Int)) = loopK code a := by
  unfold canB
  rw [h, decide_eq_true (show (k, (a : Int), (b : Int)).2.1 < ((sumLen code / 2 : Nat) : Int) by dsimp only; omega), decide_eq_true (show (k, (a : Int), (b : Int)).2.2 < ((sumLen code / 2 : Nat) : Int) by dsimp only; omega), if_pos hk]
  simp
theorem canB_pair {code : List (List Int)} {k : Int} {a b : Nat} (h : formB (k, (a : Int), (b : Int)) = true) (h1 : a < sumLen code / 2) (h2 : b < sumLen code / 2) (hk : ¬ k = 1) : canB code (k, (a : Int), (b : Int)) = pairK code a b := by
  unfold canB
  rw [h, decide_eq_true (show (k, (a : Int), (b : Int)).2.1 < ((sumLen code / 2 : Nat) : Int) by dsimp only; omega), decide_eq_true (show (k, (a : Int), (b : Int)).2.2 < ((sumLen code / 2 : Nat) : Int) by dsimp only; omega), if_neg hk]
  simp

set_option maxRecDepth 100000 in
set_option maxHeartbeats 4000000 in
theorem l16Can_any (A : Option Addr) (c T : Nat) (code : List (List Int)) (k a b : Int) (w : World) (hc : RC w T A code) (hv : validC code = true) :
    Calls Tryz.prog 34 #[.slice A code.length c, .agg #[.int .i64 k, .int .i64 a, .int .i64 b]] w (RetV w (.bool (canB code (k, a, b)))) := by
  obtain ⟨hs1, hs2, hs3⟩ := valid_sum hv
  have hn : code.length + sumLen code ≤ 1048576 := by omega
  obtain ⟨N, hNe⟩ : ∃ N, N = sumLen code / 2 := ⟨_, rfl⟩
  have hNl : N ≤ 120 := by omega
  have HNE := hide hNe
  have e1 : (sumLen code : Int) / 2 = (N : Int) := by omega
  have q0 : Bx (w.alloc (.cells #[.int .i64 k, .int .i64 a, .int .i64 b] 46)) w.heap.size 46 #[.int .i64 k, .int .i64 a, .int .i64 b] := Bx.new _ _ _
  have hc0 := hc.alloc (.cells #[.int .i64 k, .int .i64 a, .int .i64 b] 46)
  have hB0 : Below w.heap.size w (w.alloc (.cells #[.int .i64 k, .int .i64 a, .int .i64 b] 46)) := (Below.refl _ _).alloc (Nat.le_refl _) _
  have hI : formB (k, a, b) = true → Hid (0 ≤ a ∧ a ≤ 119 ∧ ((k = 1 ∧ b = 0) ∨ (k = 2 ∧ a < b ∧ b ≤ 119))) := fun h => hide (formB_parts h)
  clear hNe hs3
  cases hf : formB (k, a, b)
  · have HV := hide (canB_form (code := code) hf)
    go_enter Tryz.func34, Tryz.ntmps34
    go_wp2_with (go_at_call 51; refine (l15Many_any _ _ T code _ hc0 hn).mono ?_; rintro e w' ⟨rfl, rfl⟩)
    refine (l16Form_any k a b _).mono ?_
    rw [hf]
    rintro e w2 ⟨rfl, hb2⟩
    have hB2 := hB0.trans (hb2.mono hB0.size)
    clear hf hI
    go_wp2_with fail
    go_ret
    rw [HV.out]
    exact ⟨rfl, hB2⟩
  · have HI := hI hf
    have HF := hide hf
    obtain ⟨i1, i2, i3⟩ := HI.out
    have hb0 : 0 ≤ b := by omega
    obtain ⟨an, rfl⟩ : ∃ an : Nat, a = (an : Int) := ⟨a.toNat, by omega⟩
    obtain ⟨bn, rfl⟩ : ∃ bn : Nat, b = (bn : Int) := ⟨b.toNat, by omega⟩
    clear hI i1 i2 i3 hb0
    by_cases ha : an < N
    · by_cases hb : bn < N
      · have haI : ¬ (N : Int) ≤ (an : Int) := by omega
        have hbI : ¬ (N : Int) ≤ (bn : Int) := by omega
        by_cases hk : k = 1
        · have HV := hide (canB_loop (code := code) HF.out (by rw [← HNE.out]; exact ha) (by rw [← HNE.out]; exact hb) hk)
          obtain ⟨v, hvv⟩ : ∃ v, v = loopK code an := ⟨_, rfl⟩
          have HVV := hide hvv
          have t0 : (k == 1) = true := by simp [hk]
          clear hk
          go_enter Tryz.func34, Tryz.ntmps34
          go_wp2_with (go_at_call 51; refine (l15Many_any _ _ T code _ hc0 hn).mono ?_; rintro e w' ⟨rfl, rfl⟩)
          refine (l16Form_any k _ _ _).mono ?_
          rw [hf]
          rintro e w2 ⟨rfl, hb2⟩
          have hB2 := hB0.trans (hb2.mono hB0.size)
          obtain ⟨r0, r1, r2⟩ := (q0.below hb2).three
          have hc2 := hc.below hB2
          clear hf
          go_wp2_with fail
          refine (l16Loop_any _ _ T an code _ hc2 hn (by omega)).mono ?_
          rw [← hvv]
          rintro e w3 ⟨rfl, hb3⟩
          have hB3 := hB2.trans (hb3.mono hB2.size)
          clear hvv
          go_wp2_with fail
          go_ret
          rw [HV.out, ← HVV.out]
          exact ⟨rfl, hB3⟩
        · have HV := hide (canB_pair (code := code) HF.out (by rw [← HNE.out]; exact ha) (by rw [← HNE.out]; exact hb) hk)
          obtain ⟨v, hvv⟩ : ∃ v, v = pairK code an bn := ⟨_, rfl⟩
          have HVV := hide hvv
          have t0 : (k == 1) = false := by simp [hk]
          clear hk
          go_enter Tryz.func34, Tryz.ntmps34
          go_wp2_with (go_at_call 51; refine (l15Many_any _ _ T code _ hc0 hn).mono ?_; rintro e w' ⟨rfl, rfl⟩)
          refine (l16Form_any k _ _ _).mono ?_
          rw [hf]
          rintro e w2 ⟨rfl, hb2⟩
          have hB2 := hB0.trans (hb2.mono hB0.size)
          obtain ⟨r0, r1, r2⟩ := (q0.below hb2).three
          have hc2 := hc.below hB2
          clear hf
          go_wp2_with fail
          refine (l16Pair_any _ _ T an bn code _ hc2 hn (by omega) (by omega)).mono ?_
          rw [← hvv]
          rintro e w3 ⟨rfl, hb3⟩
          have hB3 := hB2.trans (hb3.mono hB2.size)
          clear hvv
          go_wp2_with fail
          go_ret
          rw [HV.out, ← HVV.out]
          exact ⟨rfl, hB3⟩
      · have haI : ¬ (N : Int) ≤ (an : Int) := by omega
        have hbI : (N : Int) ≤ (bn : Int) := by omega
        have HV := hide (canB_b (code := code) (k := k) (a := (an : Int)) (b := (bn : Int)) (by rw [← HNE.out]; omega))
        go_enter Tryz.func34, Tryz.ntmps34
        go_wp2_with (go_at_call 51; refine (l15Many_any _ _ T code _ hc0 hn).mono ?_; rintro e w' ⟨rfl, rfl⟩)
        refine (l16Form_any k _ _ _).mono ?_
        rw [hf]
        rintro e w2 ⟨rfl, hb2⟩
        have hB2 := hB0.trans (hb2.mono hB0.size)
        obtain ⟨r0, r1, r2⟩ := (q0.below hb2).three
        clear hf
        go_wp2_with fail
        go_ret
        rw [HV.out]
        exact ⟨rfl, hB2⟩
    · have haI : (N : Int) ≤ (an : Int) := by omega
      have HV := hide (canB_a (code := code) (k := k) (a := (an : Int)) (b := (bn : Int)) (by rw [← HNE.out]; omega))
      go_enter Tryz.func34, Tryz.ntmps34
      go_wp2_with (go_at_call 51; refine (l15Many_any _ _ T code _ hc0 hn).mono ?_; rintro e w' ⟨rfl, rfl⟩)
      refine (l16Form_any k _ _ _).mono ?_
      rw [hf]
      rintro e w2 ⟨rfl, hb2⟩
      have hB2 := hB0.trans (hb2.mono hB0.size)
      obtain ⟨r0, r1, r2⟩ := (q0.below hb2).three
      clear hf
      go_wp2_with fail
      go_ret
      rw [HV.out]
      exact ⟨rfl, hB2⟩

set_option maxRecDepth 100000 in
set_option maxHeartbeats 8000000 in
theorem possible_any (A : Option Addr) (c T : Nat) (code : List (List Int)) (k a b : Int) (w : World) (hc : RC w T A code) (hv : validC code = true) :
    Calls Tryz.prog 35 #[.agg #[.int .i64 k, .int .i64 a, .int .i64 b], .slice A code.length c] w (RetV w (.bool (canB code (k, a, b)))) := by
  obtain ⟨hs1, hs2, hs3⟩ := valid_sum hv
  have hn : code.length + sumLen code ≤ 1048576 := by omega
  obtain ⟨N, hNe⟩ : ∃ N, N = sumLen code / 2 := ⟨_, rfl⟩
  have hNl : N ≤ 120 := by omega
  have HNE := hide hNe
  have e1 : (sumLen code : Int) / 2 = (N : Int) := by omega
  have q0 : Bx (w.alloc (.cells #[.int .i64 k, .int .i64 a, .int .i64 b] 46)) w.heap.size 46 #[.int .i64 k, .int .i64 a, .int .i64 b] := Bx.new _ _ _
  have hB0 : Below w.heap.size w (w.alloc (.cells #[.int .i64 k, .int .i64 a, .int .i64 b] 46)) := (Below.refl _ _).alloc (Nat.le_refl _) _
  have C0 : Below (w.alloc (.cells #[.int .i64 k, .int .i64 a, .int .i64 b] 46)).heap.size (w.alloc (.cells #[.int .i64 k, .int .i64 a, .int .i64 b] 46)) (w.alloc (.cells #[.int .i64 k, .int .i64 a, .int .i64 b] 46)).drew := (Below.refl _ _).drew
  have KW : Hid (∀ W, Below (w.alloc (.cells #[.int .i64 k, .int .i64 a, .int .i64 b] 46)).heap.size (w.alloc (.cells #[.int .i64 k, .int .i64 a, .int .i64 b] 46)) W → W.cell? ⟨w.heap.size, 0, none⟩ = some (.int .i64 k) ∧ W.cell? ⟨w.heap.size, 1, none⟩ = some (.int .i64 a) ∧ W.cell? ⟨w.heap.size, 2, none⟩ = some (.int .i64 b)) := hide (fun W hW => (q0.below hW).three)
  have hI : formB (k, a, b) = true → Hid (0 ≤ a ∧ a ≤ 119 ∧ ((k = 1 ∧ b = 0) ∨ (k = 2 ∧ a < b ∧ b ≤ 119))) := fun h => hide (formB_parts h)
  have hvv := hide hv
  clear hNe hs3 hv
  cases hf : formB (k, a, b)
  · have HV := hide (canB_form (code := code) hf)
    go_enter Tryz.func35, Tryz.ntmps35
    go_wp2_with fail
    have hf1 : ∀ p : BelowOf (w.alloc (.cells #[.int .i64 k, .int .i64 a, .int .i64 b] 46)), p.w.cell? ⟨w.heap.size, 0, none⟩ = some (.int .i64 k) := fun p => (KW.out p.w p.h).1
    have hf2 : ∀ p : BelowOf (w.alloc (.cells #[.int .i64 k, .int .i64 a, .int .i64 b] 46)), p.w.cell? ⟨w.heap.size, 1, none⟩ = some (.int .i64 a) := fun p => (KW.out p.w p.h).2.1
    have hf3 : ∀ p : BelowOf (w.alloc (.cells #[.int .i64 k, .int .i64 a, .int .i64 b] 46)), p.w.cell? ⟨w.heap.size, 2, none⟩ = some (.int .i64 b) := fun p => (KW.out p.w p.h).2.2
    have HFF : ∀ W, Calls Tryz.prog 37 #[.agg #[.int .i64 k, .int .i64 a, .int .i64 b]] W (RetV W (.bool false)) := fun W => by
      have := hasForm_any k a b W
      rw [hf] at this
      exact this
    refine region_below (by kernel_rfl) (by kernel_rfl) C0 ?_
    clear C0 hI
    repeat (go_big_quiet_step (first | exact BelowOf.ret (HFF _)))
    refine wpQuiet_nil ?_
    rintro wq ⟨⟨wq, hq⟩, rfl⟩
    have hBq := hB0.trans (hq.mono hB0.size)
    go_wp2_with fail
    go_ret
    rw [HV.out]
    exact ⟨rfl, hBq⟩
  · have HI := hI hf
    have HF := hide hf
    obtain ⟨i1, i2, i3⟩ := HI.out
    have hb0 : 0 ≤ b := by omega
    obtain ⟨an, rfl⟩ : ∃ an : Nat, a = (an : Int) := ⟨a.toNat, by omega⟩
    obtain ⟨bn, rfl⟩ : ∃ bn : Nat, b = (bn : Int) := ⟨b.toNat, by omega⟩
    have hb119 : bn ≤ 119 := by omega
    have ha119 : an ≤ 119 := by omega
    clear hI i1 i2 i3 hb0
    have hf1 : ∀ p : BelowOf (w.alloc (.cells #[.int .i64 k, .int .i64 (an : Int), .int .i64 (bn : Int)] 46)), p.w.cell? ⟨w.heap.size, 0, none⟩ = some (.int .i64 k) := fun p => (KW.out p.w p.h).1
    have hf2 : ∀ p : BelowOf (w.alloc (.cells #[.int .i64 k, .int .i64 (an : Int), .int .i64 (bn : Int)] 46)), p.w.cell? ⟨w.heap.size, 1, none⟩ = some (.int .i64 (an : Int)) := fun p => (KW.out p.w p.h).2.1
    have hf3 : ∀ p : BelowOf (w.alloc (.cells #[.int .i64 k, .int .i64 (an : Int), .int .i64 (bn : Int)] 46)), p.w.cell? ⟨w.heap.size, 2, none⟩ = some (.int .i64 (bn : Int)) := fun p => (KW.out p.w p.h).2.2
    have HFF : ∀ W, Calls Tryz.prog 37 #[.agg #[.int .i64 k, .int .i64 (an : Int), .int .i64 (bn : Int)]] W (RetV W (.bool true)) := fun W => by
      have := hasForm_any k (an : Int) (bn : Int) W
      rw [hf] at this
      exact this
    have HCC : ∀ p : BelowOf (w.alloc (.cells #[.int .i64 k, .int .i64 (an : Int), .int .i64 (bn : Int)] 46)), Calls Tryz.prog 68 #[.slice A code.length c] p.w (RetV p.w (.int .i64 (N : Int))) := fun p => (countCoded_any _ _ T code _ (hc.below (hB0.trans (p.h.mono hB0.size))) hn).mono (fun e w' ⟨he, hw⟩ => ⟨by rw [he, ← HNE.out], hw ▸ Below.refl _ _⟩)
    obtain ⟨M, hM⟩ : ∃ M : Int, M = max (an : Int) (bn : Int) := ⟨_, rfl⟩
    have hMb : (N : Int) ≤ M ↔ ¬ (an < N ∧ bn < N) := by omega
    have hMM := hM.symm
    by_cases hlt : (N : Int) ≤ M
    · have HV : Hid (canB code (k, (an : Int), (bn : Int)) = false) := hide (by
        by_cases ha : an < N
        · exact canB_b (by rw [← HNE.out]; omega)
        · exact canB_a (by rw [← HNE.out]; omega))
      clear hM hMb
      go_enter Tryz.func35, Tryz.ntmps35
      go_wp2_with fail
      refine region_below (by kernel_rfl) (by kernel_rfl) C0 ?_
      repeat (go_big_quiet_step (first | exact BelowOf.ret (HFF _) | exact BelowOf.ret (HCC _)))
      refine wpQuiet_nil ?_
      rintro wq ⟨⟨wq, CE⟩, rfl⟩
      clear hf1 hf2 hf3 HFF HCC
      all_goals go_wp2_with fail
      all_goals go_ret
      all_goals rw [HV.out]
      all_goals exact ⟨rfl, hB0.trans (CE.mono hB0.size)⟩
    · obtain ⟨ha, hb⟩ : an < N ∧ bn < N := by omega
      clear hM hMb
      by_cases hk : k = 1
      · have HV := hide (canB_loop (code := code) HF.out (by rw [← HNE.out]; exact ha) (by rw [← HNE.out]; exact hb) hk)
        obtain ⟨v, hvx⟩ : ∃ v, v = loopK code an := ⟨_, rfl⟩
        have HVV := hide hvx
        have t0 : (k == 1) = true := by simp [hk]
        have hlab : ¬ an < bn := by have := HI.out; omega
        have hanN : (an : Int) < (N : Int) := by omega
        have v1 : IntKind.i64.wrap ((an : Int) + 1) = (an : Int) + 1 := by rw [IntKind.wrap_i64]; omega
        have v2 : IntKind.i64.wrap (-(an : Int)) = -(an : Int) := by rw [IntKind.wrap_i64]; omega
        have v3 : IntKind.i64.wrap (-(an : Int) - 1) = -(an : Int) - 1 := by rw [IntKind.wrap_i64]; omega
        have HQ : Hid ((an : Int) + 1 ≠ -(an : Int) - 1) := hide (by omega)
        have HAT := hide (valid_at hvv.out (k := an) (by rw [← HNE.out]; exact ha))
        clear hk
        go_enter Tryz.func35, Tryz.ntmps35
        go_wp2_with fail
        refine region_below (by kernel_rfl) (by kernel_rfl) C0 ?_
        repeat (go_big_quiet_step (first | exact BelowOf.ret (HFF _) | exact BelowOf.ret (HCC _)))
        refine wpQuiet_nil ?_
        rintro wq ⟨⟨wq, CE⟩, rfl⟩
        clear hf1 hf2 hf3 HFF HCC
        have hB2 := hB0.trans (CE.mono hB0.size)
        have hc2 := hc.below hB2
        obtain ⟨r0, r1, r2⟩ := KW.out _ CE
        clear hf
        go_wp2_with fail
        refine (places_any _ _ T code _ hc2 hn).mono ?_
        rintro e w3 ⟨mb, l, rfl, hmb, hmp, hl, hb3⟩
        have CE3 := CE.trans (hb3.mono CE.size)
        have hB3 := hB2.trans (hb3.mono hB2.size)
        obtain ⟨s0, s1, s2⟩ := KW.out _ CE3
        have hc3 := hc.below hB3
        clear r0 r1 r2 hc2
        go_wp2_with fail
        refine (followV_any _ _ T mb l code _ _ _ hc3 hmp hl.out hvv.out HAT.out.1 HAT.out.2 HQ.out).mono ?_
        rw [show nextC code ((an : Int) + 1) (-(an : Int) - 1) = v from HVV.out.symm]
        rintro e w4 ⟨rfl, hb4⟩
        have hB4 := hB3.trans (hb4.mono hB3.size)
        clear hvx
        go_wp2_with fail
        go_ret
        rw [HV.out, ← HVV.out]
        exact ⟨rfl, hB4⟩
      · have HV := hide (canB_pair (code := code) HF.out (by rw [← HNE.out]; exact ha) (by rw [← HNE.out]; exact hb) hk)
        obtain ⟨v, hvx⟩ : ∃ v, v = pairK code an bn := ⟨_, rfl⟩
        have HVV := hide hvx
        have t0 : (k == 1) = false := by simp [hk]
        have hlab : an < bn := by have := HI.out; omega
        clear hk
        go_enter Tryz.func35, Tryz.ntmps35
        go_wp2_with fail
        refine region_below (by kernel_rfl) (by kernel_rfl) C0 ?_
        repeat (go_big_quiet_step (first | exact BelowOf.ret (HFF _) | exact BelowOf.ret (HCC _)))
        refine wpQuiet_nil ?_
        rintro wq ⟨⟨wq, CE⟩, rfl⟩
        clear hf1 hf2 hf3 HFF HCC
        have hB2 := hB0.trans (CE.mono hB0.size)
        have hc2 := hc.below hB2
        obtain ⟨r0, r1, r2⟩ := KW.out _ CE
        clear hf
        go_wp2_with fail
        refine (places_any _ _ T code _ hc2 hn).mono ?_
        rintro e w3 ⟨mb, l, rfl, hmb, hmp, hl, hb3⟩
        have CE3 := CE.trans (hb3.mono CE.size)
        have hB3 := hB2.trans (hb3.mono hB2.size)
        obtain ⟨s0, s1, s2⟩ := KW.out _ CE3
        have hc3 := hc.below hB3
        clear r0 r1 r2 hc2
        go_wp2_with fail
        refine (sideBySide_any _ _ T mb an bn l code _ hc3 hmp hl hvv.out hlab (by rw [← HNE.out]; exact hb)).mono ?_
        rw [← hvx]
        rintro e w4 ⟨rfl, hb4⟩
        have hB4 := hB3.trans (hb4.mono hB3.size)
        clear hvx
        go_wp2_with fail
        go_ret
        rw [HV.out, ← HVV.out]
        exact ⟨rfl, hB4⟩
end Go.Proofs.YtocellbhpjiioaaGreat
