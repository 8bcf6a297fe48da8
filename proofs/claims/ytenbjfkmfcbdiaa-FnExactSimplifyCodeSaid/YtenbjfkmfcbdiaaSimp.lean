/-
  Contracts: SimplifyCode, of the program and of the reference. Conditions: none beyond the lengths.
-/
import Derived.Test.YtenbjfkmfcbdiaaReplay
namespace Go.Proofs.Ytenbjfkmfcbdiaa
open Go.RowKit
set_option linter.unusedVariables false

/-- moves are made until there is none -/
def simpF : Nat → List (List Int) → List (Int × Int × Int) → List (List Int) × List (Int × Int × Int)
  | 0, code, ms => (code, ms)
  | f + 1, code, ms => if (firstM code).2 = true then simpF f (doM code (firstM code).1) (ms ++ [(firstM code).1]) else (code, ms)
def simpR (code : List (List Int)) : List (List Int) × List (Int × Int × Int) × Int := if validC code = true then ((simpF (sumLen code / 2 + 1) code []).1, (simpF (sumLen code / 2 + 1) code []).2, 0) else ([], [], 1)
def lenV : Value → Nat
  | .slice _ n _ => n
  | _ => 0
/-- A code, a row of moves, both of its own and apart, and a number. -/
def RetCMI2 (w : World) (code : List (List Int)) (ms : List (Int × Int × Int)) (n : Int) (e : Ending) (w' : World) : Prop :=
  ∃ A c A2 c2 lo hi, e = .returned (.tuple #[.slice A code.length c, .slice A2 ms.length c2, .int .i64 n]) ∧ w.heap.size ≤ lo ∧ hi ≤ w'.heap.size ∧ OwnC w' lo hi A c code ∧ Own mvE w' w.heap.size A2 c2 ms ∧ (∀ g, blk A2 = some g → g < lo ∨ hi ≤ g) ∧ Below w.heap.size w w'
theorem loopsL_first {code : List (List Int)} {m : Int × Int × Int} (hv : validC code = true) (h : firstM code = (m, true)) : canB code m = true ∧ ∃ a : Nat, m.2.1 = (a : Int) ∧ a < sumLen code / 2 := by
  obtain ⟨hs1, hs2, hs3⟩ := valid_sum hv
  unfold firstM at h
  split at h
  · rename_i x t hl
    obtain ⟨a, h1, h2, rfl⟩ := loopsL_mem (code := code) (m := sumLen code / 2) (x := x) (by rw [hl]; exact List.mem_cons_self)
    injection h with h _
    subst h
    refine ⟨?_, a, rfl, h1⟩
    have hf : formB (1, (a : Int), ((0 : Nat) : Int)) = true := by
      unfold formB
      simp [inB]
      omega
    have := canB_loop (code := code) (k := 1) (a := a) (b := 0) hf h1 (by omega) rfl
    rw [h2] at this
    exact this
  · rename_i hl
    split at h
    · rename_i x y u t hp
      obtain ⟨a, b, h1, h2, h3, h4, h5⟩ := pairsL_mem (code := code) (N := sumLen code / 2) (m := sumLen code / 2) (r := x :: y :: u) (by rw [hp]; exact List.mem_cons_self)
      injection h5 with e1 e2
      injection e2 with e2 e3
      subst e1 e2
      injection h with h _
      subst h
      refine ⟨?_, a, rfl, h1⟩
      have hf : formB (2, (a : Int), (b : Int)) = true := by
        unfold formB
        simp [inB]
        omega
      have := canB_pair (code := code) (k := 2) (a := a) (b := b) hf h1 h2 (by decide)
      rw [h4] at this
      exact this
    · injection h with _ h
      cases h
theorem firstM_can {code : List (List Int)} {m : Int × Int × Int} (hv : validC code = true) (h : firstM code = (m, true)) : canB code m = true := (loopsL_first hv h).1
theorem firstM_less {code : List (List Int)} {m : Int × Int × Int} (hv : validC code = true) (h : firstM code = (m, true)) : sumLen (doM code m) / 2 < sumLen code / 2 := by
  obtain ⟨_, a, h1, h2⟩ := loopsL_first hv h
  have h3 := without_sum (moveG m) hv
  have h4 := numsW_lt (g := moveG m) h2 (by unfold moveG; rw [h1]; simp)
  unfold doM
  omega
def Simp (code : List (List Int)) (f : Nat) (cur : List (List Int)) (ms : List (Int × Int × Int)) : Prop :=
  validC cur = true ∧ simpF (sumLen code / 2 + 1) code [] = simpF f cur ms ∧ sumLen cur / 2 < f ∧ ms.length + sumLen cur / 2 ≤ sumLen code / 2
theorem Simp.start {code : List (List Int)} (hv : validC code = true) : Simp code (sumLen code / 2 + 1) code [] := ⟨hv, rfl, by omega, by simp⟩
theorem Simp.step {code cur : List (List Int)} {f : Nat} {ms : List (Int × Int × Int)} {m : Int × Int × Int} (h : Simp code f cur ms) (hf : firstM cur = (m, true)) : Simp code (f - 1) (doM cur m) (ms ++ [m]) := by
  obtain ⟨h1, h2, h3, h4⟩ := h
  have h5 := firstM_less h1 hf
  obtain ⟨f', rfl⟩ : ∃ f', f = f' + 1 := ⟨f - 1, by omega⟩
  have e : simpF (f' + 1) cur ms = simpF f' (doM cur m) (ms ++ [m]) := by rw [simpF, hf, if_pos rfl]
  rw [e] at h2
  refine ⟨doM_valid m h1, h2, by simp; omega, by simp; omega⟩
theorem Simp.stop {code cur : List (List Int)} {f : Nat} {ms : List (Int × Int × Int)} (h : Simp code f cur ms) (hf : (firstM cur).2 = false) : simpF (sumLen code / 2 + 1) code [] = (cur, ms) := by
  obtain ⟨h1, h2, h3, h4⟩ := h
  obtain ⟨f', rfl⟩ : ∃ f', f = f' + 1 := ⟨f - 1, by omega⟩
  rw [h2, simpF, if_neg (by rw [hf]; simp)]
theorem simpF_len : ∀ (f : Nat) (code : List (List Int)) (ms : List (Int × Int × Int)), (simpF f code ms).1.length = code.length ∧ sumLen (simpF f code ms).1 ≤ sumLen code ∧ (simpF f code ms).2.length ≤ ms.length + f
  | 0, code, ms => ⟨rfl, Nat.le_refl _, by simp [simpF]⟩
  | f + 1, code, ms => by
    rw [simpF]
    split
    · have h1 := simpF_len f (doM code (firstM code).1) (ms ++ [(firstM code).1])
      have h2 := withoutC_len (moveG (firstM code).1) code
      unfold doM at h1 ⊢
      rw [List.length_append, List.length_singleton] at h1
      omega
    · exact ⟨rfl, Nat.le_refl _, by simp⟩
theorem simpR_len (code : List (List Int)) (hn : code.length + sumLen code ≤ 1048576) : (simpR code).1.length + sumLen (simpR code).1 ≤ 1048576 ∧ (simpR code).2.1.length ≤ 1048576 := by
  unfold simpR
  split
  · rename_i hv
    obtain ⟨hs1, hs2, hs3⟩ := valid_sum hv
    have := simpF_len (sumLen code / 2 + 1) code []
    simp only [List.length_nil] at this
    dsimp only
    omega
  · simp [sumLen]

set_option maxRecDepth 100000 in
set_option maxHeartbeats 8000000 in
theorem implSimp_any (A : Option Addr) (c T : Nat) (code : List (List Int)) (w : World) (hc : RC w T A code) (hn : code.length + sumLen code ≤ 1048576) :
    Calls Try.prog 44 #[.slice A code.length c] w (RetCMI2 w (simpR code).1 (simpR code).2.1 (simpR code).2.2) := by
  cases hv : validC code
  · have HV : Hid (simpR code = ([], [], 1)) := hide (by unfold simpR; rw [if_neg (by rw [hv]; simp)])
    go_enter Try.func44, Try.ntmps44
    go_wp2_with fail
    refine (validCode_any _ _ T code _ hc hn).mono ?_
    rw [hv]
    rintro e w1 ⟨rfl, hb1⟩
    clear hv
    have hz1 := hb1.size
    go_wp2_with fail
    refine bodyPost_ret (v := .tuple #[.slice none 0 0, .slice none 0 0, .int .i64 1]) (by simp [results, Try.results44, go_sem]) rfl ?_
    rw [HV.out]
    exact ⟨none, 0, none, 0, w1.heap.size, w1.heap.size, rfl, hz1, Nat.le_refl _, OwnC.nil _ _ _, Own.nil _ _, fun g hg => by simp [blk] at hg, hb1⟩
  · have HV : Hid (simpR code = ((simpF (sumLen code / 2 + 1) code []).1, (simpF (sumLen code / 2 + 1) code []).2, 0)) := hide (by unfold simpR; rw [if_pos hv])
    have hv0 := hide hv
    obtain ⟨hs1, hs2, hs3⟩ := valid_sum hv
    obtain ⟨N0, hN0⟩ : ∃ N0, N0 = sumLen code / 2 := ⟨_, rfl⟩
    have HN0 := hide hN0
    have hN0l : N0 ≤ 120 := by omega
    clear hN0
    go_enter Try.func44, Try.ntmps44
    go_wp2_with fail
    refine (validCode_any _ _ T code _ hc hn).mono ?_
    rw [hv]
    rintro e w1 ⟨rfl, hb1⟩
    clear hv
    go_wp2_with fail
    refine (cloneCode_any _ _ T code _ (hc.below hb1) hn).mono ?_
    rintro e w2 ⟨A2, c2, rfl, own2, hb2⟩
    have hB2 := hb1.trans (hb2.mono hb1.size)
    have hz2 := hB2.size
    have hz1 := hb1.size
    have hmv : Own mvE (w2.alloc (.cells #[] 42)) w.heap.size (some ⟨w2.heap.size, 0, none⟩) 0 [] := Own.new (E := mvE) w2 [] #[] rfl hz2 (by simp)
    have own2' := own2.alloc (.cells #[] 42)
    have hB2' := hB2.alloc hz2 (.cells #[] 42)
    go_wp2_with fail
    go_loopw [5, 6] (fun o mv wr => ∃ (f : Nat) (A1 : Option Addr) (c1 : Nat) (cur : List (List Int)) (A3 : Option Addr) (c3 : Nat) (ms : List (Int × Int × Int)) (lo hi : Nat), o = .slice A1 cur.length c1 ∧ mv = .slice A3 ms.length c3 ∧ Hid (Simp code f cur ms) ∧ w.heap.size ≤ lo ∧ hi ≤ wr.heap.size ∧ OwnC wr lo hi A1 c1 cur ∧ Own mvE wr w.heap.size A3 c3 ms ∧ Hid (∀ g, blk A3 = some g → g < lo ∨ hi ≤ g) ∧ Below w.heap.size w wr) (fun _ mv _ => N0 + 1 - lenV mv)
    case atStart => exact ⟨_, A2, c2, code, _, 0, [], w1.heap.size, w2.heap.size, rfl, rfl, hide (Simp.start hv0.out), hz1, by simp, own2', hmv, hide (fun g hg => by have := blk_inj hg; omega), hB2'⟩
    case round =>
      clear own2 own2' hB2 hB2' hmv
      obtain ⟨f, A1, c1, cur, A3, c3, ms, lo, hi, rfl, rfl, hp, hlo, hhi, own, omv, hout, hB⟩ := hrel
      have hz := hB.size
      have hcv := hide hp.out.1
      have hmN : ms.length ≤ N0 := by have := hp.out.2.2.2; have := HN0.out; omega
      have hml : ms.length ≤ 120 := by have := hp.out.2.2.2; have := HN0.out; omega
      obtain ⟨m, ok, hf⟩ : ∃ m ok, firstM cur = (m, ok) := ⟨_, _, rfl⟩
      obtain ⟨k, a, b⟩ := m
      have HF := hide hf
      cases ok
      · have HP := hide (hp.out.stop (by rw [hf]))
        go_wp2_with fail
        refine (implFirst_any _ _ _ cur _ own.rd hcv.out).mono ?_
        rw [hf]
        rintro e w3 ⟨rfl, hb3⟩
        have hB3 := (hB.trans (hb3.mono hz)).alloc (by have := hb3.size; omega) (.cells #[.int .i64 k, .int .i64 a, .int .i64 b] 42)
        have own3 := (own.below hb3).alloc (.cells #[.int .i64 k, .int .i64 a, .int .i64 b] 42)
        have omv3 := (omv.below hb3).alloc (.cells #[.int .i64 k, .int .i64 a, .int .i64 b] 42)
        have hs3 := hb3.size
        clear hf
        go_wp2_with fail
        refine bodyPost_ret (v := .tuple #[.slice A1 cur.length c1, .slice A3 ms.length c3, .int .i64 0]) (by simp [results, Try.results44, go_sem]) rfl ?_
        rw [HV.out, HP.out]
        exact ⟨A1, c1, A3, c3, lo, hi, rfl, hlo, by simp; omega, own3, omv3, hout.out, hB3⟩
      · have hcan := hide (firstM_can hcv.out hf)
        have HP := hide (hp.out.step hf)
        go_wp2_with fail
        refine (implFirst_any _ _ _ cur _ own.rd hcv.out).mono ?_
        rw [hf]
        rintro e w3 ⟨rfl, hb3⟩
        have q0 : Bx (w3.alloc (.cells #[.int .i64 k, .int .i64 a, .int .i64 b] 42)) w3.heap.size 42 #[.int .i64 k, .int .i64 a, .int .i64 b] := Bx.new _ _ _
        have hB3 := (hB.trans (hb3.mono hz)).alloc (by have := hb3.size; omega) (.cells #[.int .i64 k, .int .i64 a, .int .i64 b] 42)
        have hcr := (own.below hb3).rd.alloc (.cells #[.int .i64 k, .int .i64 a, .int .i64 b] 42)
        have omv3 := (omv.below hb3).alloc (.cells #[.int .i64 k, .int .i64 a, .int .i64 b] 42)
        have hs3 := hb3.size
        have hzz3 := hB3.size
        clear hf
        go_wp2_with fail
        refine (made_any _ _ _ cur k a b _ hcr hcv.out).mono ?_
        rintro e w4 ⟨A4, c4, rfl, own4, hb4⟩
        have hB4 := hB3.trans (hb4.mono hzz3)
        have omv4 := omv3.below hb4
        have q1 := q0.below hb4
        obtain ⟨r0, r1, r2⟩ := q1.three
        have hs4 := hb4.size
        have hzz4 := hB4.size
        simp only [World.size_alloc] at hs4
        go_wp2_with (at_builtin; refine wpList_append_row mvE rfl (.tmp 27) (.tmp 29) rfl w.heap.size A3 c3 ms rfl (omv4.alloc _) (some ⟨w4.heap.size, 0, none⟩) 1 [(k, a, b)] rfl (RG.fresh (E := mvE) w4 _ rfl (k, a, b) #[.int .i64 k, .int .i64 a, .int .i64 b] rfl _) (by simp; omega) (by simp [mvE]; omega) (by simp; omega) (ms ++ [(k, a, b)]) rfl ?_; intro A5 c5 w5 omv5 hg5 hb5)
        have own5 := (own4.alloc (.cells #[.int .i64 k, .int .i64 a, .int .i64 b] 42)).setGrown hg5 (by simp) (fun g q1 q2 e => by have := (omv4.ge e.symm).2; have h6 := (omv.ge e.symm).2; simp only [World.size_alloc] at q1; omega)
        have hB5 := (hB4.alloc hzz4 (.cells #[.int .i64 k, .int .i64 a, .int .i64 b] 42)).grown hg5 (by simp; omega) (fun g hg => (omv.ge hg).1)
        have hs5 := hg5.size
        simp only [World.size_alloc] at hs5
        go_roundw
        case rel => exact ⟨f - 1, A4, c4, doM cur (k, a, b), A5, c5, ms ++ [(k, a, b)], w3.heap.size + 1, w4.heap.size, rfl, by simp, HP, by omega, by omega, by simpa using own5, omv5, hide (fun g hg => by
            rcases hb5 with h | h
            · rw [h] at hg
              have := (omv.ge hg).2
              omega
            · rw [h] at hg
              injection hg with hg
              simp only [World.size_alloc] at hg
              omega), hB5⟩
        case measure => simp [lenV]; omega
set_option maxRecDepth 100000 in
set_option maxHeartbeats 8000000 in
theorem specSimp_any (A : Option Addr) (c T : Nat) (code : List (List Int)) (w : World) (hc : RC w T A code) (hn : code.length + sumLen code ≤ 1048576) :
    Calls Try.prog 43 #[.slice A code.length c] w (RetCMI2 w (simpR code).1 (simpR code).2.1 (simpR code).2.2) := by
  cases hv : validC code
  · have HV : Hid (simpR code = ([], [], 1)) := hide (by unfold simpR; rw [if_neg (by rw [hv]; simp)])
    go_enter Try.func43, Try.ntmps43
    go_wp2_with fail
    refine (l14Ok_any _ _ T code _ hc hn).mono ?_
    rw [hv]
    rintro e w1 ⟨rfl, hb1⟩
    clear hv
    have hz1 := hb1.size
    go_wp2_with fail
    refine bodyPost_ret (v := .tuple #[.slice none 0 0, .slice none 0 0, .int .i64 1]) (by simp [results, Try.results43, go_sem]) rfl ?_
    rw [HV.out]
    exact ⟨none, 0, none, 0, w1.heap.size, w1.heap.size, rfl, hz1, Nat.le_refl _, OwnC.nil _ _ _, Own.nil _ _, fun g hg => by simp [blk] at hg, hb1⟩
  · have HV : Hid (simpR code = ((simpF (sumLen code / 2 + 1) code []).1, (simpF (sumLen code / 2 + 1) code []).2, 0)) := hide (by unfold simpR; rw [if_pos hv])
    have hv0 := hide hv
    obtain ⟨hs1, hs2, hs3⟩ := valid_sum hv
    obtain ⟨N0, hN0⟩ : ∃ N0, N0 = sumLen code / 2 := ⟨_, rfl⟩
    have HN0 := hide hN0
    have hN0l : N0 ≤ 120 := by omega
    clear hN0
    go_enter Try.func43, Try.ntmps43
    go_wp2_with fail
    refine (l14Ok_any _ _ T code _ hc hn).mono ?_
    rw [hv]
    rintro e w1 ⟨rfl, hb1⟩
    clear hv
    go_wp2_with fail
    refine (l14Copy_any _ _ T code _ (hc.below hb1) hn).mono ?_
    rintro e w2 ⟨A2, c2, rfl, own2, hb2⟩
    have hB2 := hb1.trans (hb2.mono hb1.size)
    have hz2 := hB2.size
    have hz1 := hb1.size
    have hmv : Own mvE (w2.alloc (.cells #[] 42)) w.heap.size (some ⟨w2.heap.size, 0, none⟩) 0 [] := Own.new (E := mvE) w2 [] #[] rfl hz2 (by simp)
    have own2' := own2.alloc (.cells #[] 42)
    have hB2' := hB2.alloc hz2 (.cells #[] 42)
    go_wp2_with fail
    go_loopw [5, 6] (fun o mv wr => ∃ (f : Nat) (A1 : Option Addr) (c1 : Nat) (cur : List (List Int)) (A3 : Option Addr) (c3 : Nat) (ms : List (Int × Int × Int)) (lo hi : Nat), o = .slice A1 cur.length c1 ∧ mv = .slice A3 ms.length c3 ∧ Hid (Simp code f cur ms) ∧ w.heap.size ≤ lo ∧ hi ≤ wr.heap.size ∧ OwnC wr lo hi A1 c1 cur ∧ Own mvE wr w.heap.size A3 c3 ms ∧ Hid (∀ g, blk A3 = some g → g < lo ∨ hi ≤ g) ∧ Below w.heap.size w wr) (fun _ mv _ => N0 + 1 - lenV mv)
    case atStart => exact ⟨_, A2, c2, code, _, 0, [], w1.heap.size, w2.heap.size, rfl, rfl, hide (Simp.start hv0.out), hz1, by simp, own2', hmv, hide (fun g hg => by have := blk_inj hg; omega), hB2'⟩
    case round =>
      clear own2 own2' hB2 hB2' hmv
      obtain ⟨f, A1, c1, cur, A3, c3, ms, lo, hi, rfl, rfl, hp, hlo, hhi, own, omv, hout, hB⟩ := hrel
      have hz := hB.size
      have hcv := hide hp.out.1
      have hmN : ms.length ≤ N0 := by have := hp.out.2.2.2; have := HN0.out; omega
      have hml : ms.length ≤ 120 := by have := hp.out.2.2.2; have := HN0.out; omega
      obtain ⟨m, ok, hf⟩ : ∃ m ok, firstM cur = (m, ok) := ⟨_, _, rfl⟩
      obtain ⟨k, a, b⟩ := m
      have HF := hide hf
      cases ok
      · have HP := hide (hp.out.stop (by rw [hf]))
        go_wp2_with fail
        refine (specFirst_any _ _ _ cur _ own.rd hcv.out).mono ?_
        rw [hf]
        rintro e w3 ⟨rfl, hb3⟩
        have hB3 := (hB.trans (hb3.mono hz)).alloc (by have := hb3.size; omega) (.cells #[.int .i64 k, .int .i64 a, .int .i64 b] 42)
        have own3 := (own.below hb3).alloc (.cells #[.int .i64 k, .int .i64 a, .int .i64 b] 42)
        have omv3 := (omv.below hb3).alloc (.cells #[.int .i64 k, .int .i64 a, .int .i64 b] 42)
        have hs3 := hb3.size
        clear hf
        go_wp2_with fail
        refine bodyPost_ret (v := .tuple #[.slice A1 cur.length c1, .slice A3 ms.length c3, .int .i64 0]) (by simp [results, Try.results43, go_sem]) rfl ?_
        rw [HV.out, HP.out]
        exact ⟨A1, c1, A3, c3, lo, hi, rfl, hlo, by simp; omega, own3, omv3, hout.out, hB3⟩
      · have hcan := hide (firstM_can hcv.out hf)
        have HP := hide (hp.out.step hf)
        go_wp2_with fail
        refine (specFirst_any _ _ _ cur _ own.rd hcv.out).mono ?_
        rw [hf]
        rintro e w3 ⟨rfl, hb3⟩
        have q0 : Bx (w3.alloc (.cells #[.int .i64 k, .int .i64 a, .int .i64 b] 42)) w3.heap.size 42 #[.int .i64 k, .int .i64 a, .int .i64 b] := Bx.new _ _ _
        have hB3 := (hB.trans (hb3.mono hz)).alloc (by have := hb3.size; omega) (.cells #[.int .i64 k, .int .i64 a, .int .i64 b] 42)
        have hcr := (own.below hb3).rd.alloc (.cells #[.int .i64 k, .int .i64 a, .int .i64 b] 42)
        have omv3 := (omv.below hb3).alloc (.cells #[.int .i64 k, .int .i64 a, .int .i64 b] 42)
        have hs3 := hb3.size
        have hzz3 := hB3.size
        clear hf
        go_wp2_with fail
        refine (l16Do_any _ _ _ cur k a b _ hcr hcv.out hcan.out).mono ?_
        rintro e w4 ⟨A4, c4, rfl, own4, hb4⟩
        have hB4 := hB3.trans (hb4.mono hzz3)
        have omv4 := omv3.below hb4
        have q1 := q0.below hb4
        obtain ⟨r0, r1, r2⟩ := q1.three
        have hs4 := hb4.size
        have hzz4 := hB4.size
        simp only [World.size_alloc] at hs4
        go_wp2_with (at_builtin; refine wpList_append_row mvE rfl (.tmp 27) (.tmp 29) rfl w.heap.size A3 c3 ms rfl (omv4.alloc _) (some ⟨w4.heap.size, 0, none⟩) 1 [(k, a, b)] rfl (RG.fresh (E := mvE) w4 _ rfl (k, a, b) #[.int .i64 k, .int .i64 a, .int .i64 b] rfl _) (by simp; omega) (by simp [mvE]; omega) (by simp; omega) (ms ++ [(k, a, b)]) rfl ?_; intro A5 c5 w5 omv5 hg5 hb5)
        have own5 := (own4.alloc (.cells #[.int .i64 k, .int .i64 a, .int .i64 b] 42)).setGrown hg5 (by simp) (fun g q1 q2 e => by have := (omv4.ge e.symm).2; have h6 := (omv.ge e.symm).2; simp only [World.size_alloc] at q1; omega)
        have hB5 := (hB4.alloc hzz4 (.cells #[.int .i64 k, .int .i64 a, .int .i64 b] 42)).grown hg5 (by simp; omega) (fun g hg => (omv.ge hg).1)
        have hs5 := hg5.size
        simp only [World.size_alloc] at hs5
        go_roundw
        case rel => exact ⟨f - 1, A4, c4, doM cur (k, a, b), A5, c5, ms ++ [(k, a, b)], w3.heap.size + 1, w4.heap.size, rfl, by simp, HP, by omega, by omega, by simpa using own5, omv5, hide (fun g hg => by
            rcases hb5 with h | h
            · rw [h] at hg
              have := (omv.ge hg).2
              omega
            · rw [h] at hg
              injection hg with hg
              simp only [World.size_alloc] at hg
              omega), hB5⟩
        case measure => simp [lenV]; omega
end Go.Proofs.Ytenbjfkmfcbdiaa
