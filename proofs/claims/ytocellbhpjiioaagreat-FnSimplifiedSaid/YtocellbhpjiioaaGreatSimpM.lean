/-
  Contracts and words: equal rows of moves, texts compared, how long the text of moves is. Conditions: none beyond the lengths.
  Contracts: ReplayMoves, of the program and of the reference. Conditions: none beyond the lengths.
  Contracts: SimplifyCode, of the program and of the reference. Conditions: none beyond the lengths.
-/
import Derived.Test.YtocellbhpjiioaaGreatMoves
import Derived.Test.YtocellbhpjiioaaGreatMovesTextM
import Derived.Test.YtocellbhpjiioaaGreatApply
import Derived.Test.YtocellbhpjiioaaGreatCopyM
import Derived.Laws.StructEq
namespace Go.Proofs.YtocellbhpjiioaaGreat
open Go.RowKit
set_option linter.unusedVariables false

theorem run_same_mv (x y z : Int) (W : World) : (binOp .neq 46 (.agg #[.int .i64 x, .int .i64 y, .int .i64 z]) (.agg #[.int .i64 x, .int .i64 y, .int .i64 z])).run Tryz.prog W = .ok (.bool false) W := by
  rw [run_neq_struct]
  go_simp
set_option maxHeartbeats 1000000 in
theorem f6moves_same (A B : Option Addr) (c d : Nat) (xs : List (Int × Int × Int)) (w : World) (hA : RG mvE w A xs) (hB : RG mvE w B xs) (hn : xs.length ≤ 1048576) :
    Calls Tryz.prog 18 #[.slice A xs.length c, .slice B xs.length d] w (RetQ w (.bool true)) := by
  have hnm : ((xs.length : Int) != (xs.length : Int)) = false := by simp
  go_enter Tryz.func18, Tryz.ntmps18
  go_wp2
  go_loopw [5] (fun i wr => ∃ (k : Nat), k ≤ xs.length ∧ i = .int .i64 k ∧ ∃ n, wr = w.drewN n)
    (fun i _ => xs.length - (intOf i).toNat)
  case atStart => exact ⟨0, Nat.zero_le _, rfl, 0, rfl⟩
  case round =>
    obtain ⟨k, hk, rfl, n, hwn⟩ := hrel
    have hA1 : RG mvE wr A xs := by rw [hwn]; exact hA.drewN n
    have hB1 : RG mvE wr B xs := by rw [hwn]; exact hB.drewN n
    have HWN := hide hwn
    clear hwn
    by_cases hlt : k < xs.length
    · obtain ⟨b, off, x, y, z, rfl, hb, hx, c0, c1, c2⟩ := mv_at hA1 hlt
      obtain ⟨b', off', x', y', z', rfl, hb', hx', c0', c1', c2'⟩ := mv_at hB1 hlt
      rw [hx] at hx'
      injection hx' with hx'
      injection hx' with e1 hx'
      injection hx' with e2 e3
      subst e1 e2 e3
      have hne := fun W => run_same_mv x y z W
      clear hx
      go_wp2_with fail
      go_quiet (fail)
      go_wp2_with fail
      go_roundw
      case rel => exact ⟨k + 1, by omega, by go_num, _, by rw [HWN.out, World.drewN_drewN]⟩
      case measure => simp [intOf]; omega
    · go_wp2
      go_ret
      exact ⟨rfl, _, HWN.out⟩
theorem str_neq_same (W : World) (t : TypeId) (P : Program) (l : List UInt8) : (binOp .neq t (str l) (str l)).run P W = .ok (.bool false) W := by
  unfold str
  rw [binOp_string_neq]
  simp
theorem guard_neq_same (W : World) (x y : Operand) (l : List UInt8) : (eqGuard .neq 9 x y (str l) (str l)).run Tryz.prog W = .ok () W := by
  unfold str
  simp [eqGuard, go_sem]
theorem guard_neq_lit (W : World) (x y : Operand) (l : List UInt8) : (eqGuard .neq 9 x y (str l) (.string ⟨#[]⟩)).run Tryz.prog W = .ok () W := by
  unfold str
  simp [eqGuard, go_sem]
theorem movesT_len (ms : List (Int × Int × Int)) : (movesT ms).length ≤ 6000 := by
  unfold movesT
  split
  · rename_i h
    have hl : ms.length ≤ 120 := by unfold listB at h; rw [Bool.and_eq_true] at h; exact of_decide_eq_true h.2
    have h1 := joinTo_le [32] (ms.map moveT) 1 46 (by simp) (moveT_all h) ms.length
    have h2 : ms.length * (1 + 46) ≤ 120 * 47 := Nat.mul_le_mul hl (Nat.le_refl _)
    omega
  · simp
end Go.Proofs.YtocellbhpjiioaaGreat

namespace Go.Proofs.YtocellbhpjiioaaGreat
open Go.RowKit
set_option linter.unusedVariables false

/-- the code after moves up to one that is not possible, and how many -/
def playM : List (List Int) → List (Int × Int × Int) → List (List Int) × Nat
  | code, [] => (code, 0)
  | code, m :: t => if canB code m = true then ((playM (doM code m) t).1, (playM (doM code m) t).2 + 1) else (code, 0)
def replayR (code : List (List Int)) (ms : List (Int × Int × Int)) : List (List Int) × Int × Int := if validC code = true then ((playM code ms).1, ((playM code ms).2 : Int), 0) else ([], 0, 1)
theorem playM_len : ∀ (ms : List (Int × Int × Int)) (code : List (List Int)), (playM code ms).1.length = code.length ∧ sumLen (playM code ms).1 ≤ sumLen code
  | [], code => ⟨rfl, Nat.le_refl _⟩
  | m :: t, code => by
    unfold playM
    split
    · have h1 := playM_len t (doM code m)
      have h2 := withoutC_len (moveG m) code
      unfold doM at h1 ⊢
      dsimp only
      omega
    · exact ⟨rfl, Nat.le_refl _⟩
theorem replayR_len (code : List (List Int)) (ms : List (Int × Int × Int)) (hn : code.length + sumLen code ≤ 1048576) : (replayR code ms).1.length + sumLen (replayR code ms).1 ≤ 1048576 := by
  unfold replayR
  split
  · have := playM_len ms code
    dsimp only
    omega
  · simp [sumLen]
theorem playM_yes {code : List (List Int)} {m : Int × Int × Int} {t : List (Int × Int × Int)} (h : canB code m = true) : playM code (m :: t) = ((playM (doM code m) t).1, (playM (doM code m) t).2 + 1) := by rw [playM, if_pos h]
theorem playM_no {code : List (List Int)} {m : Int × Int × Int} {t : List (Int × Int × Int)} (h : canB code m = false) : playM code (m :: t) = (code, 0) := by rw [playM, if_neg (by rw [h]; simp)]
/-- after i moves the code is cur -/
def Play (code : List (List Int)) (ms : List (Int × Int × Int)) (i : Nat) (cur : List (List Int)) : Prop :=
  validC cur = true ∧ (playM code ms).1 = (playM cur (ms.drop i)).1 ∧ (playM code ms).2 = i + (playM cur (ms.drop i)).2
theorem Play.start {code : List (List Int)} {ms : List (Int × Int × Int)} (h : validC code = true) : Play code ms 0 code := ⟨h, by simp, by simp⟩
theorem drop_at {α : Type} {l : List α} {i : Nat} {x : α} (h : l[i]? = some x) : l.drop i = x :: l.drop (i + 1) := by
  have hi := (List.getElem?_eq_some_iff.1 h).1
  rw [List.drop_eq_getElem_cons hi]
  rw [List.getElem?_eq_getElem hi] at h
  injection h with h
  rw [h]
theorem Play.step {code cur : List (List Int)} {ms : List (Int × Int × Int)} {i : Nat} {m : Int × Int × Int} (h : Play code ms i cur) (hm : ms[i]? = some m) (hc : canB cur m = true) : Play code ms (i + 1) (doM cur m) := by
  obtain ⟨h1, h2, h3⟩ := h
  rw [drop_at hm, playM_yes hc] at h2 h3
  exact ⟨doM_valid m h1, h2, by rw [h3]; dsimp only; omega⟩
theorem Play.stop {code cur : List (List Int)} {ms : List (Int × Int × Int)} {i : Nat} {m : Int × Int × Int} (h : Play code ms i cur) (hm : ms[i]? = some m) (hc : canB cur m = false) : cur = (playM code ms).1 ∧ (playM code ms).2 = i := by
  obtain ⟨h1, h2, h3⟩ := h
  rw [drop_at hm, playM_no hc] at h2 h3
  exact ⟨h2.symm, h3⟩
theorem Play.full {code cur : List (List Int)} {ms : List (Int × Int × Int)} {i : Nat} (h : Play code ms i cur) (hi : ms.length ≤ i) : cur = (playM code ms).1 ∧ (playM code ms).2 = i := by
  obtain ⟨h1, h2, h3⟩ := h
  rw [List.drop_of_length_le hi] at h2 h3
  exact ⟨h2.symm, h3⟩

set_option maxRecDepth 100000 in
set_option maxHeartbeats 4000000 in
theorem implReplay_any (A : Option Addr) (c T : Nat) (code : List (List Int)) (L : Option Addr) (cl : Nat) (ms : List (Int × Int × Int)) (w : World) (hc : RC w T A code) (hL : RG mvE w L ms) (hn : code.length + sumLen code ≤ 1048576) (hml : ms.length ≤ 1048576) :
    Calls Tryz.prog 9 #[.slice A code.length c, .slice L ms.length cl] w (RetCII w (replayR code ms).1 (replayR code ms).2.1 (replayR code ms).2.2) := by
  cases hv : validC code
  · have HV : Hid (replayR code ms = ([], 0, 1)) := hide (by unfold replayR; rw [if_neg (by rw [hv]; simp)])
    go_enter Tryz.func9, Tryz.ntmps9
    go_wp2_with fail
    refine (validCode_any _ _ T code _ hc hn).mono ?_
    rw [hv]
    rintro e w1 ⟨rfl, hb1⟩
    clear hv
    go_wp2_with fail
    refine bodyPost_ret (v := .tuple #[.slice none 0 0, .int .i64 0, .int .i64 1]) (by simp [results, Tryz.results9, go_sem]) rfl ?_
    rw [HV.out]
    exact ⟨none, 0, rfl, OwnC.nil _ _ _, hb1⟩
  · have HV : Hid (replayR code ms = ((playM code ms).1, ((playM code ms).2 : Int), 0)) := hide (by unfold replayR; rw [if_pos hv])
    have hv0 := hide hv
    go_enter Tryz.func9, Tryz.ntmps9
    go_wp2_with fail
    refine (validCode_any _ _ T code _ hc hn).mono ?_
    rw [hv]
    rintro e w1 ⟨rfl, hb1⟩
    clear hv
    go_wp2_with fail
    refine (cloneCode_any _ _ T code _ (hc.below hb1) hn).mono ?_
    rintro e w2 ⟨A2, c2, rfl, own2, hb2⟩
    have hB2 := hb1.trans (hb2.mono hb1.size)
    have own2' := own2.mono hb1.size (Nat.le_refl _)
    go_wp2_with fail
    go_loopw [7, 17] (fun o s wr => ∃ (i : Nat) (A1 : Option Addr) (c1 : Nat) (cur : List (List Int)), i ≤ ms.length ∧ s = .int .i64 i ∧ o = .slice A1 cur.length c1 ∧ Hid (Play code ms i cur) ∧ OwnC wr w.heap.size wr.heap.size A1 c1 cur ∧ Below w.heap.size w wr) (fun _ s _ => ms.length - (intOf s).toNat)
    case atStart => exact ⟨0, A2, c2, code, Nat.zero_le _, rfl, rfl, hide (Play.start hv0.out), own2', hB2⟩
    case round =>
      clear own2 own2' hB2
      obtain ⟨i, A1, c1, cur, hi, rfl, rfl, hp, own, hB⟩ := hrel
      have hz := hB.size
      have hlst := hL.below hB
      have hcv := hide hp.out.1
      by_cases hlt : i < ms.length
      · obtain ⟨b, off, x, y, z, rfl, hb, hx, hcx, hcy, hcz⟩ := mv_at hlst hlt
        have HX := hide hx
        clear hx
        have q0 : Bx (wr.alloc (.cells #[.int .i64 x, .int .i64 y, .int .i64 z] 46)) wr.heap.size 46 #[.int .i64 x, .int .i64 y, .int .i64 z] := Bx.new _ _ _
        have hcr := own.rd.alloc (.cells #[.int .i64 x, .int .i64 y, .int .i64 z] 46)
        have hB0 := hB.alloc hz (.cells #[.int .i64 x, .int .i64 y, .int .i64 z] 46)
        cases hcn : canB cur (x, y, z)
        · have HP := hide (hp.out.stop HX.out hcn)
          go_wp2_with fail
          refine (possible_any _ _ _ cur x y z _ hcr hcv.out).mono ?_
          rw [hcn]
          rintro e w3 ⟨rfl, hb3⟩
          clear hcn
          have hB3 := hB0.trans (hb3.mono hB0.size)
          have q1 := q0.below hb3
          obtain ⟨r0, r1, r2⟩ := q1.three
          have own3 := (own.alloc (.cells #[.int .i64 x, .int .i64 y, .int .i64 z] 46)).below hb3
          have hs3 := hb3.size
          simp only [World.size_alloc] at hs3
          go_wp2_with fail
          refine bodyPost_ret (v := .tuple #[.slice A1 cur.length c1, .int .i64 (i : Int), .int .i64 0]) (by simp [results, Tryz.results9, go_sem]) rfl ?_
          rw [HV.out, ← HP.out.1, HP.out.2]
          exact ⟨A1, c1, rfl, own3.mono (Nat.le_refl _) (by omega), hB3⟩
        · have HP := hide (hp.out.step HX.out hcn)
          have hcan := hide hcn
          go_wp2_with fail
          refine (possible_any _ _ _ cur x y z _ hcr hcv.out).mono ?_
          rw [hcn]
          rintro e w3 ⟨rfl, hb3⟩
          clear hcn
          have hB3 := hB0.trans (hb3.mono hB0.size)
          have q1 := q0.below hb3
          obtain ⟨r0, r1, r2⟩ := q1.three
          have own3 := (own.alloc (.cells #[.int .i64 x, .int .i64 y, .int .i64 z] 46)).below hb3
          have hs3 := hb3.size
          simp only [World.size_alloc] at hs3
          go_wp2_with fail
          refine (made_any _ _ _ cur x y z _ own3.rd hcv.out).mono ?_
          rintro e w4 ⟨A4, c4, rfl, own4, hb4⟩
          have hB4 := hB3.trans (hb4.mono hB3.size)
          have hz3 := hB3.size
          go_wp2_with fail
          go_roundw
          case rel => exact ⟨i + 1, A4, c4, doM cur (x, y, z), by omega, by go_num, rfl, HP, own4.mono hz3 (Nat.le_refl _), hB4⟩
          case measure => simp [intOf]; omega
      · have HP := hide (hp.out.full (by omega))
        obtain rfl : i = ms.length := by omega
        go_wp2_with fail
        refine bodyPost_ret (v := .tuple #[.slice A1 cur.length c1, .int .i64 (ms.length : Int), .int .i64 0]) (by simp [results, Tryz.results9, go_sem]) rfl ?_
        rw [HV.out, ← HP.out.1, HP.out.2]
        exact ⟨A1, c1, rfl, own, hB⟩
set_option maxRecDepth 100000 in
set_option maxHeartbeats 4000000 in
theorem specReplay_any (A : Option Addr) (c T : Nat) (code : List (List Int)) (L : Option Addr) (cl : Nat) (ms : List (Int × Int × Int)) (w : World) (hc : RC w T A code) (hL : RG mvE w L ms) (hn : code.length + sumLen code ≤ 1048576) (hml : ms.length ≤ 1048576) :
    Calls Tryz.prog 10 #[.slice A code.length c, .slice L ms.length cl] w (RetCII w (replayR code ms).1 (replayR code ms).2.1 (replayR code ms).2.2) := by
  cases hv : validC code
  · have HV : Hid (replayR code ms = ([], 0, 1)) := hide (by unfold replayR; rw [if_neg (by rw [hv]; simp)])
    go_enter Tryz.func10, Tryz.ntmps10
    go_wp2_with fail
    refine (l14Ok_any _ _ T code _ hc hn).mono ?_
    rw [hv]
    rintro e w1 ⟨rfl, hb1⟩
    clear hv
    go_wp2_with fail
    refine bodyPost_ret (v := .tuple #[.slice none 0 0, .int .i64 0, .int .i64 1]) (by simp [results, Tryz.results10, go_sem]) rfl ?_
    rw [HV.out]
    exact ⟨none, 0, rfl, OwnC.nil _ _ _, hb1⟩
  · have HV : Hid (replayR code ms = ((playM code ms).1, ((playM code ms).2 : Int), 0)) := hide (by unfold replayR; rw [if_pos hv])
    have hv0 := hide hv
    go_enter Tryz.func10, Tryz.ntmps10
    go_wp2_with fail
    refine (l14Ok_any _ _ T code _ hc hn).mono ?_
    rw [hv]
    rintro e w1 ⟨rfl, hb1⟩
    clear hv
    go_wp2_with fail
    refine (l14Copy_any _ _ T code _ (hc.below hb1) hn).mono ?_
    rintro e w2 ⟨A2, c2, rfl, own2, hb2⟩
    have hB2 := hb1.trans (hb2.mono hb1.size)
    have own2' := own2.mono hb1.size (Nat.le_refl _)
    go_wp2_with fail
    go_loopw [7, 8, 9] (fun o n s wr => ∃ (i : Nat) (A1 : Option Addr) (c1 : Nat) (cur : List (List Int)), i ≤ ms.length ∧ s = .int .i64 i ∧ n = .int .i64 i ∧ o = .slice A1 cur.length c1 ∧ Hid (Play code ms i cur) ∧ OwnC wr w.heap.size wr.heap.size A1 c1 cur ∧ Below w.heap.size w wr) (fun _ _ s _ => ms.length - (intOf s).toNat)
    case atStart => exact ⟨0, A2, c2, code, Nat.zero_le _, rfl, rfl, rfl, hide (Play.start hv0.out), own2', hB2⟩
    case round =>
      clear own2 own2' hB2
      obtain ⟨i, A1, c1, cur, hi, rfl, rfl, rfl, hp, own, hB⟩ := hrel
      have hz := hB.size
      have hlst := hL.below hB
      have hcv := hide hp.out.1
      by_cases hlt : i < ms.length
      · obtain ⟨b, off, x, y, z, rfl, hb, hx, hcx, hcy, hcz⟩ := mv_at hlst hlt
        have HX := hide hx
        clear hx
        have hcr := own.rd
        cases hcn : canB cur (x, y, z)
        · have HP := hide (hp.out.stop HX.out hcn)
          go_wp2_with fail
          refine (l16Can_any _ _ _ cur x y z _ hcr hcv.out).mono ?_
          rw [hcn]
          rintro e w3 ⟨rfl, hb3⟩
          clear hcn
          have hB3 := hB.trans (hb3.mono hz)
          have own3 := own.below hb3
          have hs3 := hb3.size
          have hcx3 := (hb3.cell (p := ⟨b, off + i * 3, none⟩) hb).trans hcx
          have hcy3 := (hb3.cell (p := ⟨b, off + i * 3 + 1, none⟩) hb).trans hcy
          have hcz3 := (hb3.cell (p := ⟨b, off + i * 3 + 2, none⟩) hb).trans hcz
          go_wp2_with fail
          refine bodyPost_ret (v := .tuple #[.slice A1 cur.length c1, .int .i64 (i : Int), .int .i64 0]) (by simp [results, Tryz.results10, go_sem]) rfl ?_
          rw [HV.out, ← HP.out.1, HP.out.2]
          exact ⟨A1, c1, rfl, own3.mono (Nat.le_refl _) (by omega), hB3⟩
        · have HP := hide (hp.out.step HX.out hcn)
          have hcan := hide hcn
          go_wp2_with fail
          refine (l16Can_any _ _ _ cur x y z _ hcr hcv.out).mono ?_
          rw [hcn]
          rintro e w3 ⟨rfl, hb3⟩
          clear hcn
          have hB3 := hB.trans (hb3.mono hz)
          have own3 := own.below hb3
          have hs3 := hb3.size
          have hcx3 := (hb3.cell (p := ⟨b, off + i * 3, none⟩) hb).trans hcx
          have hcy3 := (hb3.cell (p := ⟨b, off + i * 3 + 1, none⟩) hb).trans hcy
          have hcz3 := (hb3.cell (p := ⟨b, off + i * 3 + 2, none⟩) hb).trans hcz
          go_wp2_with fail
          refine (l16Do_any _ _ _ cur x y z _ own3.rd hcv.out hcan.out).mono ?_
          rintro e w4 ⟨A4, c4, rfl, own4, hb4⟩
          have hB4 := hB3.trans (hb4.mono hB3.size)
          have hz3 := hB3.size
          go_wp2_with fail
          go_roundw
          case rel => exact ⟨i + 1, A4, c4, doM cur (x, y, z), by omega, by go_num, by go_num, rfl, HP, own4.mono hz3 (Nat.le_refl _), hB4⟩
          case measure => simp [intOf]; omega
      · have HP := hide (hp.out.full (by omega))
        obtain rfl : i = ms.length := by omega
        go_wp2_with fail
        refine bodyPost_ret (v := .tuple #[.slice A1 cur.length c1, .int .i64 (ms.length : Int), .int .i64 0]) (by simp [results, Tryz.results10, go_sem]) rfl ?_
        rw [HV.out, ← HP.out.1, HP.out.2]
        exact ⟨A1, c1, rfl, own, hB⟩
end Go.Proofs.YtocellbhpjiioaaGreat

namespace Go.Proofs.YtocellbhpjiioaaGreat
open Go.RowKit
set_option linter.unusedVariables false

/-- moves are made until there is none -/
def simpF : Nat → List (List Int) → List (Int × Int × Int) → List (List Int) × List (Int × Int × Int)
  | 0, code, ms => (code, ms)
  | f + 1, code, ms => if (firstM code).2 = true then simpF f (doM code (firstM code).1) (ms ++ [(firstM code).1]) else (code, ms)
def simpR (code : List (List Int)) : List (List Int) × List (Int × Int × Int) × Int := if validC code = true then ((simpF (sumLen code / 2 + 1) code []).1, (simpF (sumLen code / 2 + 1) code []).2, 0) else ([], [], 1)
def lenV : Value → Nat
  | .slice _ n _ => n
  | _ => 0
/-- A code, a row of moves, both of its own and apart, and a number. -/
def RetCMI2 (w : World) (code : List (List Int)) (ms : List (Int × Int × Int)) (n : Int) (e : Ending) (w' : World) : Prop :=
  ∃ A c A2 c2 lo hi, e = .returned (.tuple #[.slice A code.length c, .slice A2 ms.length c2, .int .i64 n]) ∧ w.heap.size ≤ lo ∧ hi ≤ w'.heap.size ∧ OwnC w' lo hi A c code ∧ Own mvE w' w.heap.size A2 c2 ms ∧ (∀ g, blk A2 = some g → g < lo ∨ hi ≤ g) ∧ Below w.heap.size w w'
theorem loopsL_first {code : List (List Int)} {m : Int × Int × Int} (hv : validC code = true) (h : firstM code = (m, true)) : canB code m = true ∧ ∃ a : Nat, m.2.1 = (a : Int) ∧ a < sumLen code / 2 := by
  obtain ⟨hs1, hs2, hs3⟩ := valid_sum hv
  unfold firstM at h
  split at h
  · rename_i x t hl
    obtain ⟨a, h1, h2, rfl⟩ := loopsL_mem (code := code) (m := sumLen code / 2) (x := x) (by rw [hl]; exact List.mem_cons_self)
    injection h with h _
    subst h
    refine ⟨?_, a, rfl, h1⟩
    have hf : formB (1, (a : Int), ((0 : Nat) : Int)) = true := by
      unfold formB
      simp [inB]
      omega
    have := canB_loop (code := code) (k := 1) (a := a) (b := 0) hf h1 (by omega) rfl
    rw [h2] at this
    exact this
  · rename_i hl
    split at h
    · rename_i x y u t hp
      obtain ⟨a, b, h1, h2, h3, h4, h5⟩ := pairsL_mem (code := code) (N := sumLen code / 2) (m := sumLen code / 2) (r := x :: y :: u) (by rw [hp]; exact List.mem_cons_self)
      injection h5 with e1 e2
      injection e2 with e2 e3
      subst e1 e2
      injection h with h _
      subst h
      refine ⟨?_, a, rfl, h1⟩
      have hf : formB (2, (a : Int), (b : Int)) = true := by
        unfold formB
        simp [inB]
        omega
      have := canB_pair (code := code) (k := 2) (a := a) (b := b) hf h1 h2 (by decide)
      rw [h4] at this
      exact this
    · injection h with _ h
      cases h
theorem firstM_can {code : List (List Int)} {m : Int × Int × Int} (hv : validC code = true) (h : firstM code = (m, true)) : canB code m = true := (loopsL_first hv h).1
theorem firstM_less {code : List (List Int)} {m : Int × Int × Int} (hv : validC code = true) (h : firstM code = (m, true)) : sumLen (doM code m) / 2 < sumLen code / 2 := by
  obtain ⟨_, a, h1, h2⟩ := loopsL_first hv h
  have h3 := without_sum (moveG m) hv
  have h4 := numsW_lt (g := moveG m) h2 (by unfold moveG; rw [h1]; simp)
  unfold doM
  omega
def Simp (code : List (List Int)) (f : Nat) (cur : List (List Int)) (ms : List (Int × Int × Int)) : Prop :=
  validC cur = true ∧ simpF (sumLen code / 2 + 1) code [] = simpF f cur ms ∧ sumLen cur / 2 < f ∧ ms.length + sumLen cur / 2 ≤ sumLen code / 2
theorem Simp.start {code : List (List Int)} (hv : validC code = true) : Simp code (sumLen code / 2 + 1) code [] := ⟨hv, rfl, by omega, by simp⟩
theorem Simp.step {code cur : List (List Int)} {f : Nat} {ms : List (Int × Int × Int)} {m : Int × Int × Int} (h : Simp code f cur ms) (hf : firstM cur = (m, true)) : Simp code (f - 1) (doM cur m) (ms ++ [m]) := by
  obtain ⟨h1, h2, h3, h4⟩ := h
  have h5 := firstM_less h1 hf
  obtain ⟨f', rfl⟩ : ∃ f', f = f' + 1 := ⟨f - 1, by omega⟩
  have e : simpF (f' + 1) cur ms = simpF f' (doM cur m) (ms ++ [m]) := by rw [simpF, hf, if_pos rfl]
  rw [e] at h2
  refine ⟨doM_valid m h1, h2, by simp; omega, by simp; omega⟩
theorem Simp.stop {code cur : List (List Int)} {f : Nat} {ms : List (Int × Int × Int)} (h : Simp code f cur ms) (hf : (firstM cur).2 = false) : simpF (sumLen code / 2 + 1) code [] = (cur, ms) := by
  obtain ⟨h1, h2, h3, h4⟩ := h
  obtain ⟨f', rfl⟩ : ∃ f', f = f' + 1 := ⟨f - 1, by omega⟩
  rw [h2, simpF, if_neg (by rw [hf]; simp)]
theorem simpF_len : ∀ (f : Nat) (code : List (List Int)) (ms : List (Int × Int × Int)), (simpF f code ms).1.length = code.length ∧ sumLen (simpF f code ms).1 ≤ sumLen code ∧ (simpF f code ms).2.length ≤ ms.length + f
  | 0, code, ms => ⟨rfl, Nat.le_refl _, by simp [simpF]⟩
  | f + 1, code, ms => by
    rw [simpF]
    split
    · have h1 := simpF_len f (doM code (firstM code).1) (ms ++ [(firstM code).1])
      have h2 := withoutC_len (moveG (firstM code).1) code
      unfold doM at h1 ⊢
      rw [List.length_append, List.length_singleton] at h1
      omega
    · exact ⟨rfl, Nat.le_refl _, by simp⟩
theorem simpR_len (code : List (List Int)) (hn : code.length + sumLen code ≤ 1048576) : (simpR code).1.length + sumLen (simpR code).1 ≤ 1048576 ∧ (simpR code).2.1.length ≤ 1048576 := by
  unfold simpR
  split
  · rename_i hv
    obtain ⟨hs1, hs2, hs3⟩ := valid_sum hv
    have := simpF_len (sumLen code / 2 + 1) code []
    simp only [List.length_nil] at this
    dsimp only
    omega
  · simp [sumLen]

set_option maxRecDepth 100000 in
set_option maxHeartbeats 8000000 in
theorem implSimp_any (A : Option Addr) (c T : Nat) (code : List (List Int)) (w : World) (hc : RC w T A code) (hn : code.length + sumLen code ≤ 1048576) :
    Calls Tryz.prog 6 #[.slice A code.length c] w (RetCMI2 w (simpR code).1 (simpR code).2.1 (simpR code).2.2) := by
  cases hv : validC code
  · have HV : Hid (simpR code = ([], [], 1)) := hide (by unfold simpR; rw [if_neg (by rw [hv]; simp)])
    go_enter Tryz.func6, Tryz.ntmps6
    go_wp2_with fail
    refine (validCode_any _ _ T code _ hc hn).mono ?_
    rw [hv]
    rintro e w1 ⟨rfl, hb1⟩
    clear hv
    have hz1 := hb1.size
    go_wp2_with fail
    refine bodyPost_ret (v := .tuple #[.slice none 0 0, .slice none 0 0, .int .i64 1]) (by simp [results, Tryz.results6, go_sem]) rfl ?_
    rw [HV.out]
    exact ⟨none, 0, none, 0, w1.heap.size, w1.heap.size, rfl, hz1, Nat.le_refl _, OwnC.nil _ _ _, Own.nil _ _, fun g hg => by simp [blk] at hg, hb1⟩
  · have HV : Hid (simpR code = ((simpF (sumLen code / 2 + 1) code []).1, (simpF (sumLen code / 2 + 1) code []).2, 0)) := hide (by unfold simpR; rw [if_pos hv])
    have hv0 := hide hv
    obtain ⟨hs1, hs2, hs3⟩ := valid_sum hv
    obtain ⟨N0, hN0⟩ : ∃ N0, N0 = sumLen code / 2 := ⟨_, rfl⟩
    have HN0 := hide hN0
    have hN0l : N0 ≤ 120 := by omega
    clear hN0
    go_enter Tryz.func6, Tryz.ntmps6
    go_wp2_with fail
    refine (validCode_any _ _ T code _ hc hn).mono ?_
    rw [hv]
    rintro e w1 ⟨rfl, hb1⟩
    clear hv
    go_wp2_with fail
    refine (cloneCode_any _ _ T code _ (hc.below hb1) hn).mono ?_
    rintro e w2 ⟨A2, c2, rfl, own2, hb2⟩
    have hB2 := hb1.trans (hb2.mono hb1.size)
    have hz2 := hB2.size
    have hz1 := hb1.size
    have hmv : Own mvE (w2.alloc (.cells #[] 46)) w.heap.size (some ⟨w2.heap.size, 0, none⟩) 0 [] := Own.new (E := mvE) w2 [] #[] rfl hz2 (by simp)
    have own2' := own2.alloc (.cells #[] 46)
    have hB2' := hB2.alloc hz2 (.cells #[] 46)
    go_wp2_with fail
    go_loopw [5, 6] (fun o mv wr => ∃ (f : Nat) (A1 : Option Addr) (c1 : Nat) (cur : List (List Int)) (A3 : Option Addr) (c3 : Nat) (ms : List (Int × Int × Int)) (lo hi : Nat), o = .slice A1 cur.length c1 ∧ mv = .slice A3 ms.length c3 ∧ Hid (Simp code f cur ms) ∧ w.heap.size ≤ lo ∧ hi ≤ wr.heap.size ∧ OwnC wr lo hi A1 c1 cur ∧ Own mvE wr w.heap.size A3 c3 ms ∧ Hid (∀ g, blk A3 = some g → g < lo ∨ hi ≤ g) ∧ Below w.heap.size w wr) (fun _ mv _ => N0 + 1 - lenV mv)
    case atStart => exact ⟨_, A2, c2, code, _, 0, [], w1.heap.size, w2.heap.size, rfl, rfl, hide (Simp.start hv0.out), hz1, by simp, own2', hmv, hide (fun g hg => by have := blk_inj hg; omega), hB2'⟩
    case round =>
      clear own2 own2' hB2 hB2' hmv
      obtain ⟨f, A1, c1, cur, A3, c3, ms, lo, hi, rfl, rfl, hp, hlo, hhi, own, omv, hout, hB⟩ := hrel
      have hz := hB.size
      have hcv := hide hp.out.1
      have hmN : ms.length ≤ N0 := by have := hp.out.2.2.2; have := HN0.out; omega
      have hml : ms.length ≤ 120 := by have := hp.out.2.2.2; have := HN0.out; omega
      obtain ⟨m, ok, hf⟩ : ∃ m ok, firstM cur = (m, ok) := ⟨_, _, rfl⟩
      obtain ⟨k, a, b⟩ := m
      have HF := hide hf
      cases ok
      · have HP := hide (hp.out.stop (by rw [hf]))
        go_wp2_with fail
        refine (implFirst_any _ _ _ cur _ own.rd hcv.out).mono ?_
        rw [hf]
        rintro e w3 ⟨rfl, hb3⟩
        have hB3 := (hB.trans (hb3.mono hz)).alloc (by have := hb3.size; omega) (.cells #[.int .i64 k, .int .i64 a, .int .i64 b] 46)
        have own3 := (own.below hb3).alloc (.cells #[.int .i64 k, .int .i64 a, .int .i64 b] 46)
        have omv3 := (omv.below hb3).alloc (.cells #[.int .i64 k, .int .i64 a, .int .i64 b] 46)
        have hs3 := hb3.size
        clear hf
        go_wp2_with fail
        refine bodyPost_ret (v := .tuple #[.slice A1 cur.length c1, .slice A3 ms.length c3, .int .i64 0]) (by simp [results, Tryz.results6, go_sem]) rfl ?_
        rw [HV.out, HP.out]
        exact ⟨A1, c1, A3, c3, lo, hi, rfl, hlo, by simp; omega, own3, omv3, hout.out, hB3⟩
      · have hcan := hide (firstM_can hcv.out hf)
        have HP := hide (hp.out.step hf)
        go_wp2_with fail
        refine (implFirst_any _ _ _ cur _ own.rd hcv.out).mono ?_
        rw [hf]
        rintro e w3 ⟨rfl, hb3⟩
        have q0 : Bx (w3.alloc (.cells #[.int .i64 k, .int .i64 a, .int .i64 b] 46)) w3.heap.size 46 #[.int .i64 k, .int .i64 a, .int .i64 b] := Bx.new _ _ _
        have hB3 := (hB.trans (hb3.mono hz)).alloc (by have := hb3.size; omega) (.cells #[.int .i64 k, .int .i64 a, .int .i64 b] 46)
        have hcr := (own.below hb3).rd.alloc (.cells #[.int .i64 k, .int .i64 a, .int .i64 b] 46)
        have omv3 := (omv.below hb3).alloc (.cells #[.int .i64 k, .int .i64 a, .int .i64 b] 46)
        have hs3 := hb3.size
        have hzz3 := hB3.size
        clear hf
        go_wp2_with fail
        refine (made_any _ _ _ cur k a b _ hcr hcv.out).mono ?_
        rintro e w4 ⟨A4, c4, rfl, own4, hb4⟩
        have hB4 := hB3.trans (hb4.mono hzz3)
        have omv4 := omv3.below hb4
        have q1 := q0.below hb4
        obtain ⟨r0, r1, r2⟩ := q1.three
        have hs4 := hb4.size
        have hzz4 := hB4.size
        simp only [World.size_alloc] at hs4
        go_wp2_with (at_builtin; refine wpList_append_row mvE rfl (.tmp 27) (.tmp 29) rfl w.heap.size A3 c3 ms rfl (omv4.alloc _) (some ⟨w4.heap.size, 0, none⟩) 1 [(k, a, b)] rfl (RG.fresh (E := mvE) w4 _ rfl (k, a, b) #[.int .i64 k, .int .i64 a, .int .i64 b] rfl _) (by simp; omega) (by simp [mvE]; omega) (by simp; omega) (ms ++ [(k, a, b)]) rfl ?_; intro A5 c5 w5 omv5 hg5 hb5)
        have own5 := (own4.alloc (.cells #[.int .i64 k, .int .i64 a, .int .i64 b] 46)).setGrown hg5 (by simp) (fun g q1 q2 e => by have := (omv4.ge e.symm).2; have h6 := (omv.ge e.symm).2; simp only [World.size_alloc] at q1; omega)
        have hB5 := (hB4.alloc hzz4 (.cells #[.int .i64 k, .int .i64 a, .int .i64 b] 46)).grown hg5 (by simp; omega) (fun g hg => (omv.ge hg).1)
        have hs5 := hg5.size
        simp only [World.size_alloc] at hs5
        go_roundw
        case rel => exact ⟨f - 1, A4, c4, doM cur (k, a, b), A5, c5, ms ++ [(k, a, b)], w3.heap.size + 1, w4.heap.size, rfl, by simp, HP, by omega, by omega, by simpa using own5, omv5, hide (fun g hg => by
            rcases hb5 with h | h
            · rw [h] at hg
              have := (omv.ge hg).2
              omega
            · rw [h] at hg
              injection hg with hg
              simp only [World.size_alloc] at hg
              omega), hB5⟩
        case measure => simp [lenV]; omega
set_option maxRecDepth 100000 in
set_option maxHeartbeats 8000000 in
theorem specSimp_any (A : Option Addr) (c T : Nat) (code : List (List Int)) (w : World) (hc : RC w T A code) (hn : code.length + sumLen code ≤ 1048576) :
    Calls Tryz.prog 7 #[.slice A code.length c] w (RetCMI2 w (simpR code).1 (simpR code).2.1 (simpR code).2.2) := by
  cases hv : validC code
  · have HV : Hid (simpR code = ([], [], 1)) := hide (by unfold simpR; rw [if_neg (by rw [hv]; simp)])
    go_enter Tryz.func7, Tryz.ntmps7
    go_wp2_with fail
    refine (l14Ok_any _ _ T code _ hc hn).mono ?_
    rw [hv]
    rintro e w1 ⟨rfl, hb1⟩
    clear hv
    have hz1 := hb1.size
    go_wp2_with fail
    refine bodyPost_ret (v := .tuple #[.slice none 0 0, .slice none 0 0, .int .i64 1]) (by simp [results, Tryz.results7, go_sem]) rfl ?_
    rw [HV.out]
    exact ⟨none, 0, none, 0, w1.heap.size, w1.heap.size, rfl, hz1, Nat.le_refl _, OwnC.nil _ _ _, Own.nil _ _, fun g hg => by simp [blk] at hg, hb1⟩
  · have HV : Hid (simpR code = ((simpF (sumLen code / 2 + 1) code []).1, (simpF (sumLen code / 2 + 1) code []).2, 0)) := hide (by unfold simpR; rw [if_pos hv])
    have hv0 := hide hv
    obtain ⟨hs1, hs2, hs3⟩ := valid_sum hv
    obtain ⟨N0, hN0⟩ : ∃ N0, N0 = sumLen code / 2 := ⟨_, rfl⟩
    have HN0 := hide hN0
    have hN0l : N0 ≤ 120 := by omega
    clear hN0
    go_enter Tryz.func7, Tryz.ntmps7
    go_wp2_with fail
    refine (l14Ok_any _ _ T code _ hc hn).mono ?_
    rw [hv]
    rintro e w1 ⟨rfl, hb1⟩
    clear hv
    go_wp2_with fail
    refine (l14Copy_any _ _ T code _ (hc.below hb1) hn).mono ?_
    rintro e w2 ⟨A2, c2, rfl, own2, hb2⟩
    have hB2 := hb1.trans (hb2.mono hb1.size)
    have hz2 := hB2.size
    have hz1 := hb1.size
    have hmv : Own mvE (w2.alloc (.cells #[] 46)) w.heap.size (some ⟨w2.heap.size, 0, none⟩) 0 [] := Own.new (E := mvE) w2 [] #[] rfl hz2 (by simp)
    have own2' := own2.alloc (.cells #[] 46)
    have hB2' := hB2.alloc hz2 (.cells #[] 46)
    go_wp2_with fail
    go_loopw [5, 6] (fun o mv wr => ∃ (f : Nat) (A1 : Option Addr) (c1 : Nat) (cur : List (List Int)) (A3 : Option Addr) (c3 : Nat) (ms : List (Int × Int × Int)) (lo hi : Nat), o = .slice A1 cur.length c1 ∧ mv = .slice A3 ms.length c3 ∧ Hid (Simp code f cur ms) ∧ w.heap.size ≤ lo ∧ hi ≤ wr.heap.size ∧ OwnC wr lo hi A1 c1 cur ∧ Own mvE wr w.heap.size A3 c3 ms ∧ Hid (∀ g, blk A3 = some g → g < lo ∨ hi ≤ g) ∧ Below w.heap.size w wr) (fun _ mv _ => N0 + 1 - lenV mv)
    case atStart => exact ⟨_, A2, c2, code, _, 0, [], w1.heap.size, w2.heap.size, rfl, rfl, hide (Simp.start hv0.out), hz1, by simp, own2', hmv, hide (fun g hg => by have := blk_inj hg; omega), hB2'⟩
    case round =>
      clear own2 own2' hB2 hB2' hmv
      obtain ⟨f, A1, c1, cur, A3, c3, ms, lo, hi, rfl, rfl, hp, hlo, hhi, own, omv, hout, hB⟩ := hrel
      have hz := hB.size
      have hcv := hide hp.out.1
      have hmN : ms.length ≤ N0 := by have := hp.out.2.2.2; have := HN0.out; omega
      have hml : ms.length ≤ 120 := by have := hp.out.2.2.2; have := HN0.out; omega
      obtain ⟨m, ok, hf⟩ : ∃ m ok, firstM cur = (m, ok) := ⟨_, _, rfl⟩
      obtain ⟨k, a, b⟩ := m
      have HF := hide hf
      cases ok
      · have HP := hide (hp.out.stop (by rw [hf]))
        go_wp2_with fail
        refine (specFirst_any _ _ _ cur _ own.rd hcv.out).mono ?_
        rw [hf]
        rintro e w3 ⟨rfl, hb3⟩
        have hB3 := (hB.trans (hb3.mono hz)).alloc (by have := hb3.size; omega) (.cells #[.int .i64 k, .int .i64 a, .int .i64 b] 46)
        have own3 := (own.below hb3).alloc (.cells #[.int .i64 k, .int .i64 a, .int .i64 b] 46)
        have omv3 := (omv.below hb3).alloc (.cells #[.int .i64 k, .int .i64 a, .int .i64 b] 46)
        have hs3 := hb3.size
        clear hf
        go_wp2_with fail
        refine bodyPost_ret (v := .tuple #[.slice A1 cur.length c1, .slice A3 ms.length c3, .int .i64 0]) (by simp [results, Tryz.results7, go_sem]) rfl ?_
        rw [HV.out, HP.out]
        exact ⟨A1, c1, A3, c3, lo, hi, rfl, hlo, by simp; omega, own3, omv3, hout.out, hB3⟩
      · have hcan := hide (firstM_can hcv.out hf)
        have HP := hide (hp.out.step hf)
        go_wp2_with fail
        refine (specFirst_any _ _ _ cur _ own.rd hcv.out).mono ?_
        rw [hf]
        rintro e w3 ⟨rfl, hb3⟩
        have q0 : Bx (w3.alloc (.cells #[.int .i64 k, .int .i64 a, .int .i64 b] 46)) w3.heap.size 46 #[.int .i64 k, .int .i64 a, .int .i64 b] := Bx.new _ _ _
        have hB3 := (hB.trans (hb3.mono hz)).alloc (by have := hb3.size; omega) (.cells #[.int .i64 k, .int .i64 a, .int .i64 b] 46)
        have hcr := (own.below hb3).rd.alloc (.cells #[.int .i64 k, .int .i64 a, .int .i64 b] 46)
        have omv3 := (omv.below hb3).alloc (.cells #[.int .i64 k, .int .i64 a, .int .i64 b] 46)
        have hs3 := hb3.size
        have hzz3 := hB3.size
        clear hf
        go_wp2_with fail
        refine (l16Do_any _ _ _ cur k a b _ hcr hcv.out hcan.out).mono ?_
        rintro e w4 ⟨A4, c4, rfl, own4, hb4⟩
        have hB4 := hB3.trans (hb4.mono hzz3)
        have omv4 := omv3.below hb4
        have q1 := q0.below hb4
        obtain ⟨r0, r1, r2⟩ := q1.three
        have hs4 := hb4.size
        have hzz4 := hB4.size
        simp only [World.size_alloc] at hs4
        go_wp2_with (at_builtin; refine wpList_append_row mvE rfl (.tmp 27) (.tmp 29) rfl w.heap.size A3 c3 ms rfl (omv4.alloc _) (some ⟨w4.heap.size, 0, none⟩) 1 [(k, a, b)] rfl (RG.fresh (E := mvE) w4 _ rfl (k, a, b) #[.int .i64 k, .int .i64 a, .int .i64 b] rfl _) (by simp; omega) (by simp [mvE]; omega) (by simp; omega) (ms ++ [(k, a, b)]) rfl ?_; intro A5 c5 w5 omv5 hg5 hb5)
        have own5 := (own4.alloc (.cells #[.int .i64 k, .int .i64 a, .int .i64 b] 46)).setGrown hg5 (by simp) (fun g q1 q2 e => by have := (omv4.ge e.symm).2; have h6 := (omv.ge e.symm).2; simp only [World.size_alloc] at q1; omega)
        have hB5 := (hB4.alloc hzz4 (.cells #[.int .i64 k, .int .i64 a, .int .i64 b] 46)).grown hg5 (by simp; omega) (fun g hg => (omv.ge hg).1)
        have hs5 := hg5.size
        simp only [World.size_alloc] at hs5
        go_roundw
        case rel => exact ⟨f - 1, A4, c4, doM cur (k, a, b), A5, c5, ms ++ [(k, a, b)], w3.heap.size + 1, w4.heap.size, rfl, by simp, HP, by omega, by omega, by simpa using own5, omv5, hide (fun g hg => by
            rcases hb5 with h | h
            · rw [h] at hg
              have := (omv.ge hg).2
              omega
            · rw [h] at hg
              injection hg with hg
              simp only [World.size_alloc] at hg
              omega), hB5⟩
        case measure => simp [lenV]; omega
end Go.Proofs.YtocellbhpjiioaaGreat
