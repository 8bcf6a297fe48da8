/-
  Contracts: ReplayMoves, of the program and of the reference. Conditions: none beyond the lengths.
-/
import Derived.Test.YtenbjfkmfcbdiaaApply
import Derived.Test.YtenbjfkmfcbdiaaCopy
namespace Go.Proofs.Ytenbjfkmfcbdiaa
open Go.RowKit
set_option linter.unusedVariables false

/-- the code after moves up to one that is not possible, and how many -/
def playM : List (List Int) → List (Int × Int × Int) → List (List Int) × Nat
  | code, [] => (code, 0)
  | code, m :: t => if canB code m = true then ((playM (doM code m) t).1, (playM (doM code m) t).2 + 1) else (code, 0)
def replayR (code : List (List Int)) (ms : List (Int × Int × Int)) : List (List Int) × Int × Int := if validC code = true then ((playM code ms).1, ((playM code ms).2 : Int), 0) else ([], 0, 1)
theorem playM_len : ∀ (ms : List (Int × Int × Int)) (code : List (List Int)), (playM code ms).1.length = code.length ∧ sumLen (playM code ms).1 ≤ sumLen code
  | [], code => ⟨rfl, Nat.le_refl _⟩
  | m :: t, code => by
    unfold playM
    split
    · have h1 := playM_len t (doM code m)
      have h2 := withoutC_len (moveG m) code
      unfold doM at h1 ⊢
      dsimp only
      omega
    · exact ⟨rfl, Nat.le_refl _⟩
theorem replayR_len (code : List (List Int)) (ms : List (Int × Int × Int)) (hn : code.length + sumLen code ≤ 1048576) : (replayR code ms).1.length + sumLen (replayR code ms).1 ≤ 1048576 := by
  unfold replayR
  split
  · have := playM_len ms code
    dsimp only
    omega
  · simp [sumLen]
theorem playM_yes {code : List (List Int)} {m : Int × Int × Int} {t : List (Int × Int × Int)} (h : canB code m = true) : playM code (m :: t) = ((playM (doM code m) t).1, (playM (doM code m) t).2 + 1) := by rw [playM, if_pos h]
theorem playM_no {code : List (List Int)} {m : Int × Int × Int} {t : List (Int × Int × Int)} (h : canB code m = false) : playM code (m :: t) = (code, 0) := by rw [playM, if_neg (by rw [h]; simp)]
/-- after i moves the code is cur -/
def Play (code : List (List Int)) (ms : List (Int × Int × Int)) (i : Nat) (cur : List (List Int)) : Prop :=
  validC cur = true ∧ (playM code ms).1 = (playM cur (ms.drop i)).1 ∧ (playM code ms).2 = i + (playM cur (ms.drop i)).2
theorem Play.start {code : List (List Int)} {ms : List (Int × Int × Int)} (h : validC code = true) : Play code ms 0 code := ⟨h, by simp, by simp⟩
theorem drop_at {α : Type} {l : List α} {i : Nat} {x : α} (h : l[i]? = some x) : l.drop i = x :: l.drop (i + 1) := by
  have hi := (List.getElem?_eq_some_iff.1 h).1
  rw [List.drop_eq_getElem_cons hi]
  rw [List.getElem?_eq_getElem hi] at h
  injection h with h
  rw [h]
theorem Play.step {code cur : List (List Int)} {ms : List (Int × Int × Int)} {i : Nat} {m : Int × Int × Int} (h : Play code ms i cur) (hm : ms[i]? = some m) (hc : canB cur m = true) : Play code ms (i + 1) (doM cur m) := by
  obtain ⟨h1, h2, h3⟩ := h
  rw [drop_at hm, playM_yes hc] at h2 h3
  exact ⟨doM_valid m h1, h2, by rw [h3]; dsimp only; omega⟩
theorem Play.stop {code cur : List (List Int)} {ms : List (Int × Int × Int)} {i : Nat} {m : Int × Int × Int} (h : Play code ms i cur) (hm : ms[i]? = some m) (hc : canB cur m = false) : cur = (playM code ms).1 ∧ (playM code ms).2 = i := by
  obtain ⟨h1, h2, h3⟩ := h
  rw [drop_at hm, playM_no hc] at h2 h3
  exact ⟨h2.symm, h3⟩
theorem Play.full {code cur : List (List Int)} {ms : List (Int × Int × Int)} {i : Nat} (h : Play code ms i cur) (hi : ms.length ≤ i) : cur = (playM code ms).1 ∧ (playM code ms).2 = i := by
  obtain ⟨h1, h2, h3⟩ := h
  rw [List.drop_of_length_le hi] at h2 h3
  exact ⟨h2.symm, h3⟩

set_option maxRecDepth 100000 in
set_option maxHeartbeats 4000000 in
theorem implReplay_any (A : Option Addr) (c T : Nat) (code : List (List Int)) (L : Option Addr) (cl : Nat) (ms : List (Int × Int × Int)) (w : World) (hc : RC w T A code) (hL : RG mvE w L ms) (hn : code.length + sumLen code ≤ 1048576) (hml : ms.length ≤ 1048576) :
    Calls Try.prog 42 #[.slice A code.length c, .slice L ms.length cl] w (RetCII w (replayR code ms).1 (replayR code ms).2.1 (replayR code ms).2.2) := by
  cases hv : validC code
  · have HV : Hid (replayR code ms = ([], 0, 1)) := hide (by unfold replayR; rw [if_neg (by rw [hv]; simp)])
    go_enter Try.func42, Try.ntmps42
    go_wp2_with fail
    refine (validCode_any _ _ T code _ hc hn).mono ?_
    rw [hv]
    rintro e w1 ⟨rfl, hb1⟩
    clear hv
    go_wp2_with fail
    refine bodyPost_ret (v := .tuple #[.slice none 0 0, .int .i64 0, .int .i64 1]) (by simp [results, Try.results42, go_sem]) rfl ?_
    rw [HV.out]
    exact ⟨none, 0, rfl, OwnC.nil _ _ _, hb1⟩
  · have HV : Hid (replayR code ms = ((playM code ms).1, ((playM code ms).2 : Int), 0)) := hide (by unfold replayR; rw [if_pos hv])
    have hv0 := hide hv
    go_enter Try.func42, Try.ntmps42
    go_wp2_with fail
    refine (validCode_any _ _ T code _ hc hn).mono ?_
    rw [hv]
    rintro e w1 ⟨rfl, hb1⟩
    clear hv
    go_wp2_with fail
    refine (cloneCode_any _ _ T code _ (hc.below hb1) hn).mono ?_
    rintro e w2 ⟨A2, c2, rfl, own2, hb2⟩
    have hB2 := hb1.trans (hb2.mono hb1.size)
    have own2' := own2.mono hb1.size (Nat.le_refl _)
    go_wp2_with fail
    go_loopw [7, 17] (fun o s wr => ∃ (i : Nat) (A1 : Option Addr) (c1 : Nat) (cur : List (List Int)), i ≤ ms.length ∧ s = .int .i64 i ∧ o = .slice A1 cur.length c1 ∧ Hid (Play code ms i cur) ∧ OwnC wr w.heap.size wr.heap.size A1 c1 cur ∧ Below w.heap.size w wr) (fun _ s _ => ms.length - (intOf s).toNat)
    case atStart => exact ⟨0, A2, c2, code, Nat.zero_le _, rfl, rfl, hide (Play.start hv0.out), own2', hB2⟩
    case round =>
      clear own2 own2' hB2
      obtain ⟨i, A1, c1, cur, hi, rfl, rfl, hp, own, hB⟩ := hrel
      have hz := hB.size
      have hlst := hL.below hB
      have hcv := hide hp.out.1
      by_cases hlt : i < ms.length
      · obtain ⟨b, off, x, y, z, rfl, hb, hx, hcx, hcy, hcz⟩ := mv_at hlst hlt
        have HX := hide hx
        clear hx
        have q0 : Bx (wr.alloc (.cells #[.int .i64 x, .int .i64 y, .int .i64 z] 42)) wr.heap.size 42 #[.int .i64 x, .int .i64 y, .int .i64 z] := Bx.new _ _ _
        have hcr := own.rd.alloc (.cells #[.int .i64 x, .int .i64 y, .int .i64 z] 42)
        have hB0 := hB.alloc hz (.cells #[.int .i64 x, .int .i64 y, .int .i64 z] 42)
        cases hcn : canB cur (x, y, z)
        · have HP := hide (hp.out.stop HX.out hcn)
          go_wp2_with fail
          refine (possible_any _ _ _ cur x y z _ hcr hcv.out).mono ?_
          rw [hcn]
          rintro e w3 ⟨rfl, hb3⟩
          clear hcn
          have hB3 := hB0.trans (hb3.mono hB0.size)
          have q1 := q0.below hb3
          obtain ⟨r0, r1, r2⟩ := q1.three
          have own3 := (own.alloc (.cells #[.int .i64 x, .int .i64 y, .int .i64 z] 42)).below hb3
          have hs3 := hb3.size
          simp only [World.size_alloc] at hs3
          go_wp2_with fail
          refine bodyPost_ret (v := .tuple #[.slice A1 cur.length c1, .int .i64 (i : Int), .int .i64 0]) (by simp [results, Try.results42, go_sem]) rfl ?_
          rw [HV.out, ← HP.out.1, HP.out.2]
          exact ⟨A1, c1, rfl, own3.mono (Nat.le_refl _) (by omega), hB3⟩
        · have HP := hide (hp.out.step HX.out hcn)
          have hcan := hide hcn
          go_wp2_with fail
          refine (possible_any _ _ _ cur x y z _ hcr hcv.out).mono ?_
          rw [hcn]
          rintro e w3 ⟨rfl, hb3⟩
          clear hcn
          have hB3 := hB0.trans (hb3.mono hB0.size)
          have q1 := q0.below hb3
          obtain ⟨r0, r1, r2⟩ := q1.three
          have own3 := (own.alloc (.cells #[.int .i64 x, .int .i64 y, .int .i64 z] 42)).below hb3
          have hs3 := hb3.size
          simp only [World.size_alloc] at hs3
          go_wp2_with fail
          refine (made_any _ _ _ cur x y z _ own3.rd hcv.out).mono ?_
          rintro e w4 ⟨A4, c4, rfl, own4, hb4⟩
          have hB4 := hB3.trans (hb4.mono hB3.size)
          have hz3 := hB3.size
          go_wp2_with fail
          go_roundw
          case rel => exact ⟨i + 1, A4, c4, doM cur (x, y, z), by omega, by go_num, rfl, HP, own4.mono hz3 (Nat.le_refl _), hB4⟩
          case measure => simp [intOf]; omega
      · have HP := hide (hp.out.full (by omega))
        obtain rfl : i = ms.length := by omega
        go_wp2_with fail
        refine bodyPost_ret (v := .tuple #[.slice A1 cur.length c1, .int .i64 (ms.length : Int), .int .i64 0]) (by simp [results, Try.results42, go_sem]) rfl ?_
        rw [HV.out, ← HP.out.1, HP.out.2]
        exact ⟨A1, c1, rfl, own, hB⟩
set_option maxRecDepth 100000 in
set_option maxHeartbeats 4000000 in
theorem specReplay_any (A : Option Addr) (c T : Nat) (code : List (List Int)) (L : Option Addr) (cl : Nat) (ms : List (Int × Int × Int)) (w : World) (hc : RC w T A code) (hL : RG mvE w L ms) (hn : code.length + sumLen code ≤ 1048576) (hml : ms.length ≤ 1048576) :
    Calls Try.prog 41 #[.slice A code.length c, .slice L ms.length cl] w (RetCII w (replayR code ms).1 (replayR code ms).2.1 (replayR code ms).2.2) := by
  cases hv : validC code
  · have HV : Hid (replayR code ms = ([], 0, 1)) := hide (by unfold replayR; rw [if_neg (by rw [hv]; simp)])
    go_enter Try.func41, Try.ntmps41
    go_wp2_with fail
    refine (l14Ok_any _ _ T code _ hc hn).mono ?_
    rw [hv]
    rintro e w1 ⟨rfl, hb1⟩
    clear hv
    go_wp2_with fail
    refine bodyPost_ret (v := .tuple #[.slice none 0 0, .int .i64 0, .int .i64 1]) (by simp [results, Try.results41, go_sem]) rfl ?_
    rw [HV.out]
    exact ⟨none, 0, rfl, OwnC.nil _ _ _, hb1⟩
  · have HV : Hid (replayR code ms = ((playM code ms).1, ((playM code ms).2 : Int), 0)) := hide (by unfold replayR; rw [if_pos hv])
    have hv0 := hide hv
    go_enter Try.func41, Try.ntmps41
    go_wp2_with fail
    refine (l14Ok_any _ _ T code _ hc hn).mono ?_
    rw [hv]
    rintro e w1 ⟨rfl, hb1⟩
    clear hv
    go_wp2_with fail
    refine (l14Copy_any _ _ T code _ (hc.below hb1) hn).mono ?_
    rintro e w2 ⟨A2, c2, rfl, own2, hb2⟩
    have hB2 := hb1.trans (hb2.mono hb1.size)
    have own2' := own2.mono hb1.size (Nat.le_refl _)
    go_wp2_with fail
    go_loopw [7, 8, 9] (fun o n s wr => ∃ (i : Nat) (A1 : Option Addr) (c1 : Nat) (cur : List (List Int)), i ≤ ms.length ∧ s = .int .i64 i ∧ n = .int .i64 i ∧ o = .slice A1 cur.length c1 ∧ Hid (Play code ms i cur) ∧ OwnC wr w.heap.size wr.heap.size A1 c1 cur ∧ Below w.heap.size w wr) (fun _ _ s _ => ms.length - (intOf s).toNat)
    case atStart => exact ⟨0, A2, c2, code, Nat.zero_le _, rfl, rfl, rfl, hide (Play.start hv0.out), own2', hB2⟩
    case round =>
      clear own2 own2' hB2
      obtain ⟨i, A1, c1, cur, hi, rfl, rfl, rfl, hp, own, hB⟩ := hrel
      have hz := hB.size
      have hlst := hL.below hB
      have hcv := hide hp.out.1
      by_cases hlt : i < ms.length
      · obtain ⟨b, off, x, y, z, rfl, hb, hx, hcx, hcy, hcz⟩ := mv_at hlst hlt
        have HX := hide hx
        clear hx
        have hcr := own.rd
        cases hcn : canB cur (x, y, z)
        · have HP := hide (hp.out.stop HX.out hcn)
          go_wp2_with fail
          refine (l16Can_any _ _ _ cur x y z _ hcr hcv.out).mono ?_
          rw [hcn]
          rintro e w3 ⟨rfl, hb3⟩
          clear hcn
          have hB3 := hB.trans (hb3.mono hz)
          have own3 := own.below hb3
          have hs3 := hb3.size
          have hcx3 := (hb3.cell (p := ⟨b, off + i * 3, none⟩) hb).trans hcx
          have hcy3 := (hb3.cell (p := ⟨b, off + i * 3 + 1, none⟩) hb).trans hcy
          have hcz3 := (hb3.cell (p := ⟨b, off + i * 3 + 2, none⟩) hb).trans hcz
          go_wp2_with fail
          refine bodyPost_ret (v := .tuple #[.slice A1 cur.length c1, .int .i64 (i : Int), .int .i64 0]) (by simp [results, Try.results41, go_sem]) rfl ?_
          rw [HV.out, ← HP.out.1, HP.out.2]
          exact ⟨A1, c1, rfl, own3.mono (Nat.le_refl _) (by omega), hB3⟩
        · have HP := hide (hp.out.step HX.out hcn)
          have hcan := hide hcn
          go_wp2_with fail
          refine (l16Can_any _ _ _ cur x y z _ hcr hcv.out).mono ?_
          rw [hcn]
          rintro e w3 ⟨rfl, hb3⟩
          clear hcn
          have hB3 := hB.trans (hb3.mono hz)
          have own3 := own.below hb3
          have hs3 := hb3.size
          have hcx3 := (hb3.cell (p := ⟨b, off + i * 3, none⟩) hb).trans hcx
          have hcy3 := (hb3.cell (p := ⟨b, off + i * 3 + 1, none⟩) hb).trans hcy
          have hcz3 := (hb3.cell (p := ⟨b, off + i * 3 + 2, none⟩) hb).trans hcz
          go_wp2_with fail
          refine (l16Do_any _ _ _ cur x y z _ own3.rd hcv.out hcan.out).mono ?_
          rintro e w4 ⟨A4, c4, rfl, own4, hb4⟩
          have hB4 := hB3.trans (hb4.mono hB3.size)
          have hz3 := hB3.size
          go_wp2_with fail
          go_roundw
          case rel => exact ⟨i + 1, A4, c4, doM cur (x, y, z), by omega, by go_num, by go_num, rfl, HP, own4.mono hz3 (Nat.le_refl _), hB4⟩
          case measure => simp [intOf]; omega
      · have HP := hide (hp.out.full (by omega))
        obtain rfl : i = ms.length := by omega
        go_wp2_with fail
        refine bodyPost_ret (v := .tuple #[.slice A1 cur.length c1, .int .i64 (ms.length : Int), .int .i64 0]) (by simp [results, Try.results41, go_sem]) rfl ?_
        rw [HV.out, ← HP.out.1, HP.out.2]
        exact ⟨A1, c1, rfl, own, hB⟩
end Go.Proofs.Ytenbjfkmfcbdiaa
