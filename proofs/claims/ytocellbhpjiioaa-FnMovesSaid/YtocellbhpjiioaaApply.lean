/-
  Contracts: CanMove, ApplyMove, of the program and of the reference. Conditions: none beyond the lengths.
-/
import Derived.Test.YtocellbhpjiioaaMade
import Derived.Test.YtocellbhpjiioaaRetM
namespace Go.Proofs.Ytocellbhpjiioaa
open Go.RowKit
set_option linter.unusedVariables false

def applyR (code : List (List Int)) (m : Int × Int × Int) : List (List Int) × Int := if validC code = true then (if formB m = true then (if canB code m = true then (doM code m, 0) else ([], 6)) else ([], 2)) else ([], 1)
theorem withoutC_len (g : Nat → Bool) (code : List (List Int)) : (withoutC g code).length = code.length ∧ sumLen (withoutC g code) ≤ sumLen code := ⟨renC_length _ _, renC_sum _ _⟩
theorem applyR_len (code : List (List Int)) (m : Int × Int × Int) (hn : code.length + sumLen code ≤ 1048576) : (applyR code m).1.length + sumLen (applyR code m).1 ≤ 1048576 := by
  unfold applyR
  split
  · split
    · split
      · have := withoutC_len (moveG m) code
        unfold doM
        dsimp only
        omega
      · simp [sumLen]
    · simp [sumLen]
  · simp [sumLen]

set_option maxHeartbeats 2000000 in
theorem implCanMove_any (A : Option Addr) (c T : Nat) (code : List (List Int)) (k a b : Int) (w : World) (hc : RC w T A code) (hn : code.length + sumLen code ≤ 1048576) :
    Calls Try.prog 19 #[.slice A code.length c, .agg #[.int .i64 k, .int .i64 a, .int .i64 b]] w (RetV w (.bool (validC code && canB code (k, a, b)))) := by
  have q0 : Bx (w.alloc (.cells #[.int .i64 k, .int .i64 a, .int .i64 b] 26)) w.heap.size 26 #[.int .i64 k, .int .i64 a, .int .i64 b] := Bx.new _ _ _
  have hc0 := hc.alloc (.cells #[.int .i64 k, .int .i64 a, .int .i64 b] 26)
  have hB0 : Below w.heap.size w (w.alloc (.cells #[.int .i64 k, .int .i64 a, .int .i64 b] 26)) := (Below.refl _ _).alloc (Nat.le_refl _) _
  cases hv : validC code
  · go_enter Try.func19, Try.ntmps19
    go_wp2_with fail
    refine (validCode_any _ _ T code _ hc0 hn).mono ?_
    rw [hv]
    rintro e w1 ⟨rfl, hb1⟩
    have hB1 := hB0.trans (hb1.mono hB0.size)
    clear hv
    go_wp2_with fail
    go_ret
    exact ⟨rfl, hB1⟩
  · have HV := hide hv
    obtain ⟨v, hvv⟩ : ∃ v, v = canB code (k, a, b) := ⟨_, rfl⟩
    rw [← hvv]
    go_enter Try.func19, Try.ntmps19
    go_wp2_with fail
    refine (validCode_any _ _ T code _ hc0 hn).mono ?_
    rw [hv]
    rintro e w1 ⟨rfl, hb1⟩
    have hB1 := hB0.trans (hb1.mono hB0.size)
    have q1 := q0.below hb1
    obtain ⟨r0, r1, r2⟩ := q1.three
    have hc1 := hc.below hB1
    clear hv
    go_wp2_with fail
    refine (possible_any _ _ T code k a b _ hc1 HV.out).mono ?_
    rw [← hvv]
    rintro e w2 ⟨rfl, hb2⟩
    have hB2 := hB1.trans (hb2.mono hB1.size)
    clear hvv
    go_wp2_with fail
    go_ret
    exact ⟨by simp, hB2⟩
set_option maxHeartbeats 2000000 in
theorem specCanMove_any (A : Option Addr) (c T : Nat) (code : List (List Int)) (k a b : Int) (w : World) (hc : RC w T A code) (hn : code.length + sumLen code ≤ 1048576) :
    Calls Try.prog 20 #[.slice A code.length c, .agg #[.int .i64 k, .int .i64 a, .int .i64 b]] w (RetV w (.bool (validC code && canB code (k, a, b)))) := by
  have q0 : Bx (w.alloc (.cells #[.int .i64 k, .int .i64 a, .int .i64 b] 26)) w.heap.size 26 #[.int .i64 k, .int .i64 a, .int .i64 b] := Bx.new _ _ _
  have hc0 := hc.alloc (.cells #[.int .i64 k, .int .i64 a, .int .i64 b] 26)
  have hB0 : Below w.heap.size w (w.alloc (.cells #[.int .i64 k, .int .i64 a, .int .i64 b] 26)) := (Below.refl _ _).alloc (Nat.le_refl _) _
  cases hv : validC code
  · go_enter Try.func20, Try.ntmps20
    go_wp2_with fail
    refine (l14Ok_any _ _ T code _ hc0 hn).mono ?_
    rw [hv]
    rintro e w1 ⟨rfl, hb1⟩
    have hB1 := hB0.trans (hb1.mono hB0.size)
    clear hv
    go_wp2_with fail
    go_ret
    exact ⟨rfl, hB1⟩
  · have HV := hide hv
    obtain ⟨v, hvv⟩ : ∃ v, v = canB code (k, a, b) := ⟨_, rfl⟩
    rw [← hvv]
    go_enter Try.func20, Try.ntmps20
    go_wp2_with fail
    refine (l14Ok_any _ _ T code _ hc0 hn).mono ?_
    rw [hv]
    rintro e w1 ⟨rfl, hb1⟩
    have hB1 := hB0.trans (hb1.mono hB0.size)
    have q1 := q0.below hb1
    obtain ⟨r0, r1, r2⟩ := q1.three
    have hc1 := hc.below hB1
    clear hv
    go_wp2_with fail
    refine (l16Can_any _ _ T code k a b _ hc1 HV.out).mono ?_
    rw [← hvv]
    rintro e w2 ⟨rfl, hb2⟩
    have hB2 := hB1.trans (hb2.mono hB1.size)
    clear hvv
    go_wp2_with fail
    go_ret
    exact ⟨by simp, hB2⟩
set_option maxHeartbeats 2000000 in
theorem implApply_any (A : Option Addr) (c T : Nat) (code : List (List Int)) (k a b : Int) (w : World) (hc : RC w T A code) (hn : code.length + sumLen code ≤ 1048576) :
    Calls Try.prog 7 #[.slice A code.length c, .agg #[.int .i64 k, .int .i64 a, .int .i64 b]] w (RetCC w (applyR code (k, a, b)).1 (applyR code (k, a, b)).2) := by
  have q0 : Bx (w.alloc (.cells #[.int .i64 k, .int .i64 a, .int .i64 b] 26)) w.heap.size 26 #[.int .i64 k, .int .i64 a, .int .i64 b] := Bx.new _ _ _
  have hc0 := hc.alloc (.cells #[.int .i64 k, .int .i64 a, .int .i64 b] 26)
  have hB0 : Below w.heap.size w (w.alloc (.cells #[.int .i64 k, .int .i64 a, .int .i64 b] 26)) := (Below.refl _ _).alloc (Nat.le_refl _) _
  cases hv : validC code
  · have HR : Hid (applyR code (k, a, b) = ([], 1)) := hide (by unfold applyR; rw [if_neg (by rw [hv]; simp)])
    go_enter Try.func7, Try.ntmps7
    go_wp2_with fail
    refine (validCode_any _ _ T code _ hc0 hn).mono ?_
    rw [hv]
    rintro e w1 ⟨rfl, hb1⟩
    have hB1 := hB0.trans (hb1.mono hB0.size)
    have q1 := q0.below hb1
    obtain ⟨r0, r1, r2⟩ := q1.three
    clear hv
    go_wp2_with fail
    refine bodyPost_ret (v := .tuple #[.slice none 0 0, .int .i64 1]) (by simp [results, Try.results7, go_sem]) rfl ?_
    rw [HR.out]
    exact ⟨none, 0, rfl, OwnC.nil _ _ _, hB1⟩
  · have HV := hide hv
    cases hf : formB (k, a, b)
    · have HR : Hid (applyR code (k, a, b) = ([], 2)) := hide (by unfold applyR; rw [if_pos hv, if_neg (by rw [hf]; simp)])
      go_enter Try.func7, Try.ntmps7
      go_wp2_with fail
      refine (validCode_any _ _ T code _ hc0 hn).mono ?_
      rw [hv]
      rintro e w1 ⟨rfl, hb1⟩
      have hB1 := hB0.trans (hb1.mono hB0.size)
      have q1 := q0.below hb1
      obtain ⟨r0, r1, r2⟩ := q1.three
      clear hv
      go_wp2_with fail
      refine (hasForm_any k a b _).mono ?_
      rw [hf]
      rintro e w2 ⟨rfl, hb2⟩
      have hB2 := hB1.trans (hb2.mono hB1.size)
      have q2 := q1.below hb2
      obtain ⟨s0, s1, s2⟩ := q2.three
      have hc2 := hc.below hB2
      clear r0 r1 r2 hf
      go_wp2_with fail
      refine bodyPost_ret (v := .tuple #[.slice none 0 0, .int .i64 2]) (by simp [results, Try.results7, go_sem]) rfl ?_
      rw [HR.out]
      exact ⟨none, 0, rfl, OwnC.nil _ _ _, hB2⟩
    · cases hcn : canB code (k, a, b)
      · have HR : Hid (applyR code (k, a, b) = ([], 6)) := hide (by unfold applyR; rw [if_pos hv, if_pos hf, if_neg (by rw [hcn]; simp)])
        go_enter Try.func7, Try.ntmps7
        go_wp2_with fail
        refine (validCode_any _ _ T code _ hc0 hn).mono ?_
        rw [hv]
        rintro e w1 ⟨rfl, hb1⟩
        have hB1 := hB0.trans (hb1.mono hB0.size)
        have q1 := q0.below hb1
        obtain ⟨r0, r1, r2⟩ := q1.three
        clear hv
        go_wp2_with fail
        refine (hasForm_any k a b _).mono ?_
        rw [hf]
        rintro e w2 ⟨rfl, hb2⟩
        have hB2 := hB1.trans (hb2.mono hB1.size)
        have q2 := q1.below hb2
        obtain ⟨s0, s1, s2⟩ := q2.three
        have hc2 := hc.below hB2
        clear r0 r1 r2 hf
        go_wp2_with fail
        refine (possible_any _ _ T code k a b _ hc2 HV.out).mono ?_
        rw [hcn]
        rintro e w3 ⟨rfl, hb3⟩
        have hB3 := hB2.trans (hb3.mono hB2.size)
        have q3 := q2.below hb3
        obtain ⟨t0, t1, t2⟩ := q3.three
        have hc3 := hc.below hB3
        clear s0 s1 s2 hcn
        go_wp2_with fail
        refine bodyPost_ret (v := .tuple #[.slice none 0 0, .int .i64 6]) (by simp [results, Try.results7, go_sem]) rfl ?_
        rw [HR.out]
        exact ⟨none, 0, rfl, OwnC.nil _ _ _, hB3⟩
      · have HR : Hid (applyR code (k, a, b) = (doM code (k, a, b), 0)) := hide (by unfold applyR; rw [if_pos hv, if_pos hf, if_pos hcn])
        have hcan := hide hcn
        obtain ⟨zs, hzs⟩ : ∃ zs, zs = doM code (k, a, b) := ⟨_, rfl⟩
        have HZ := hide hzs
        go_enter Try.func7, Try.ntmps7
        go_wp2_with fail
        refine (validCode_any _ _ T code _ hc0 hn).mono ?_
        rw [hv]
        rintro e w1 ⟨rfl, hb1⟩
        have hB1 := hB0.trans (hb1.mono hB0.size)
        have q1 := q0.below hb1
        obtain ⟨r0, r1, r2⟩ := q1.three
        clear hv
        go_wp2_with fail
        refine (hasForm_any k a b _).mono ?_
        rw [hf]
        rintro e w2 ⟨rfl, hb2⟩
        have hB2 := hB1.trans (hb2.mono hB1.size)
        have q2 := q1.below hb2
        obtain ⟨s0, s1, s2⟩ := q2.three
        have hc2 := hc.below hB2
        clear r0 r1 r2 hf
        go_wp2_with fail
        refine (possible_any _ _ T code k a b _ hc2 HV.out).mono ?_
        rw [hcn]
        rintro e w3 ⟨rfl, hb3⟩
        have hB3 := hB2.trans (hb3.mono hB2.size)
        have q3 := q2.below hb3
        obtain ⟨t0, t1, t2⟩ := q3.three
        have hc3 := hc.below hB3
        clear s0 s1 s2 hcn
        go_wp2_with fail
        refine (made_any _ _ T code k a b _ hc3 HV.out).mono ?_
        rw [← hzs]
        rintro e w4 ⟨A4, c4, rfl, own, hb4⟩
        have hB4 := hB3.trans (hb4.mono hB3.size)
        have hz3 := hB3.size
        clear hzs
        go_wp2_with fail
        refine bodyPost_ret (v := .tuple #[.slice A4 zs.length c4, .int .i64 0]) (by simp [results, Try.results7, go_sem]) rfl ?_
        rw [HR.out, ← HZ.out]
        exact ⟨A4, c4, rfl, own.mono hz3 (Nat.le_refl _), hB4⟩
set_option maxHeartbeats 2000000 in
theorem specApply_any (A : Option Addr) (c T : Nat) (code : List (List Int)) (k a b : Int) (w : World) (hc : RC w T A code) (hn : code.length + sumLen code ≤ 1048576) :
    Calls Try.prog 8 #[.slice A code.length c, .agg #[.int .i64 k, .int .i64 a, .int .i64 b]] w (RetCC w (applyR code (k, a, b)).1 (applyR code (k, a, b)).2) := by
  have q0 : Bx (w.alloc (.cells #[.int .i64 k, .int .i64 a, .int .i64 b] 26)) w.heap.size 26 #[.int .i64 k, .int .i64 a, .int .i64 b] := Bx.new _ _ _
  have hc0 := hc.alloc (.cells #[.int .i64 k, .int .i64 a, .int .i64 b] 26)
  have hB0 : Below w.heap.size w (w.alloc (.cells #[.int .i64 k, .int .i64 a, .int .i64 b] 26)) := (Below.refl _ _).alloc (Nat.le_refl _) _
  cases hv : validC code
  · have HR : Hid (applyR code (k, a, b) = ([], 1)) := hide (by unfold applyR; rw [if_neg (by rw [hv]; simp)])
    go_enter Try.func8, Try.ntmps8
    go_wp2_with fail
    refine (l14Ok_any _ _ T code _ hc0 hn).mono ?_
    rw [hv]
    rintro e w1 ⟨rfl, hb1⟩
    have hB1 := hB0.trans (hb1.mono hB0.size)
    have q1 := q0.below hb1
    obtain ⟨r0, r1, r2⟩ := q1.three
    clear hv
    go_wp2_with fail
    refine bodyPost_ret (v := .tuple #[.slice none 0 0, .int .i64 1]) (by simp [results, Try.results8, go_sem]) rfl ?_
    rw [HR.out]
    exact ⟨none, 0, rfl, OwnC.nil _ _ _, hB1⟩
  · have HV := hide hv
    cases hf : formB (k, a, b)
    · have HR : Hid (applyR code (k, a, b) = ([], 2)) := hide (by unfold applyR; rw [if_pos hv, if_neg (by rw [hf]; simp)])
      go_enter Try.func8, Try.ntmps8
      go_wp2_with fail
      refine (l14Ok_any _ _ T code _ hc0 hn).mono ?_
      rw [hv]
      rintro e w1 ⟨rfl, hb1⟩
      have hB1 := hB0.trans (hb1.mono hB0.size)
      have q1 := q0.below hb1
      obtain ⟨r0, r1, r2⟩ := q1.three
      clear hv
      go_wp2_with fail
      refine (l16Form_any k a b _).mono ?_
      rw [hf]
      rintro e w2 ⟨rfl, hb2⟩
      have hB2 := hB1.trans (hb2.mono hB1.size)
      have q2 := q1.below hb2
      obtain ⟨s0, s1, s2⟩ := q2.three
      have hc2 := hc.below hB2
      clear r0 r1 r2 hf
      go_wp2_with fail
      refine bodyPost_ret (v := .tuple #[.slice none 0 0, .int .i64 2]) (by simp [results, Try.results8, go_sem]) rfl ?_
      rw [HR.out]
      exact ⟨none, 0, rfl, OwnC.nil _ _ _, hB2⟩
    · cases hcn : canB code (k, a, b)
      · have HR : Hid (applyR code (k, a, b) = ([], 6)) := hide (by unfold applyR; rw [if_pos hv, if_pos hf, if_neg (by rw [hcn]; simp)])
        go_enter Try.func8, Try.ntmps8
        go_wp2_with fail
        refine (l14Ok_any _ _ T code _ hc0 hn).mono ?_
        rw [hv]
        rintro e w1 ⟨rfl, hb1⟩
        have hB1 := hB0.trans (hb1.mono hB0.size)
        have q1 := q0.below hb1
        obtain ⟨r0, r1, r2⟩ := q1.three
        clear hv
        go_wp2_with fail
        refine (l16Form_any k a b _).mono ?_
        rw [hf]
        rintro e w2 ⟨rfl, hb2⟩
        have hB2 := hB1.trans (hb2.mono hB1.size)
        have q2 := q1.below hb2
        obtain ⟨s0, s1, s2⟩ := q2.three
        have hc2 := hc.below hB2
        clear r0 r1 r2 hf
        go_wp2_with fail
        refine (l16Can_any _ _ T code k a b _ hc2 HV.out).mono ?_
        rw [hcn]
        rintro e w3 ⟨rfl, hb3⟩
        have hB3 := hB2.trans (hb3.mono hB2.size)
        have q3 := q2.below hb3
        obtain ⟨t0, t1, t2⟩ := q3.three
        have hc3 := hc.below hB3
        clear s0 s1 s2 hcn
        go_wp2_with fail
        refine bodyPost_ret (v := .tuple #[.slice none 0 0, .int .i64 6]) (by simp [results, Try.results8, go_sem]) rfl ?_
        rw [HR.out]
        exact ⟨none, 0, rfl, OwnC.nil _ _ _, hB3⟩
      · have HR : Hid (applyR code (k, a, b) = (doM code (k, a, b), 0)) := hide (by unfold applyR; rw [if_pos hv, if_pos hf, if_pos hcn])
        have hcan := hide hcn
        obtain ⟨zs, hzs⟩ : ∃ zs, zs = doM code (k, a, b) := ⟨_, rfl⟩
        have HZ := hide hzs
        go_enter Try.func8, Try.ntmps8
        go_wp2_with fail
        refine (l14Ok_any _ _ T code _ hc0 hn).mono ?_
        rw [hv]
        rintro e w1 ⟨rfl, hb1⟩
        have hB1 := hB0.trans (hb1.mono hB0.size)
        have q1 := q0.below hb1
        obtain ⟨r0, r1, r2⟩ := q1.three
        clear hv
        go_wp2_with fail
        refine (l16Form_any k a b _).mono ?_
        rw [hf]
        rintro e w2 ⟨rfl, hb2⟩
        have hB2 := hB1.trans (hb2.mono hB1.size)
        have q2 := q1.below hb2
        obtain ⟨s0, s1, s2⟩ := q2.three
        have hc2 := hc.below hB2
        clear r0 r1 r2 hf
        go_wp2_with fail
        refine (l16Can_any _ _ T code k a b _ hc2 HV.out).mono ?_
        rw [hcn]
        rintro e w3 ⟨rfl, hb3⟩
        have hB3 := hB2.trans (hb3.mono hB2.size)
        have q3 := q2.below hb3
        obtain ⟨t0, t1, t2⟩ := q3.three
        have hc3 := hc.below hB3
        clear s0 s1 s2 hcn
        go_wp2_with fail
        refine (l16Do_any _ _ T code k a b _ hc3 HV.out hcan.out).mono ?_
        rw [← hzs]
        rintro e w4 ⟨A4, c4, rfl, own, hb4⟩
        have hB4 := hB3.trans (hb4.mono hB3.size)
        have hz3 := hB3.size
        clear hzs
        go_wp2_with fail
        refine bodyPost_ret (v := .tuple #[.slice A4 zs.length c4, .int .i64 0]) (by simp [results, Try.results8, go_sem]) rfl ?_
        rw [HR.out, ← HZ.out]
        exact ⟨A4, c4, rfl, own.mono hz3 (Nat.le_refl _), hB4⟩
end Go.Proofs.Ytocellbhpjiioaa
